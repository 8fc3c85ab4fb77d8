/- The program's contracts: texts joined into one: Mdl2 Mdl3 MdlSort2 Mdl4 ArgsPre ArgsMdl Mdl5 Mdl6 Mdl7 LawPre LawPre2 LawMdl LawMdl2 LawMdl4 LawMdl5 ArgsMdl4. -/
import Derived.Test.YtgaohmfmomeflaaGreatDoorXla
import Derived.Test.YtgaohmfmomeflaaGreatDoorXvc

section
/- model: Space, Put, Weight. -/
namespace Go.Proofs.YtgaohmfmomeflaaGreatDoor
open Go.Ve

theorem space_ok (s : Sp) (l : Ml) : DCall P 41 [.ptr 0 0] (MH s l) (spv s) (MH s l) := by
  have q1 := made_ok s l
  refine DCall.of_awp tok mixed fn41 (Nat.le_of_ble_eq_true rfl) ?_
  (conv => whnf); (repeat' first | ((with_reducible refine Box.mk ?_); conv => whnf) | ((with_reducible refine And.intro (fun _ => ?_) (fun _ => ?_)) <;> conv => whnf) | ((with_reducible show AYld _ _ _ _ _); (refine AYld.of tok mixed ?_); conv => whnf) | ((with_reducible show forceH _ _); (refine (forceH_eq _ _).mpr ?_); conv => whnf) | ((with_reducible show ACall _ _ _ _ _); (refine ACall.of_pure (by assumption) (by rfl) ?_); conv => whnf) | ((with_reducible show Exists _); (refine ⟨_, ACall.of_pure (by assumption) (by rfl) ⟨rfl, rfl⟩, ?_⟩); conv => whnf) | ((with_reducible show ∃ L, drawR L _ = true ∧ _); (refine ⟨[], by kernel_rfl, ?_⟩); conv => whnf) | ((with_reducible show _ ∧ _ ∧ _); (refine ⟨by omega, by omega, ?_⟩); conv => whnf) | fail)
  refine aW [0, 1] q1 rfl rfl rfl ?_
  (conv => whnf); (repeat' first | ((with_reducible refine Box.mk ?_); conv => whnf) | ((with_reducible refine And.intro (fun _ => ?_) (fun _ => ?_)) <;> conv => whnf) | ((with_reducible show AYld _ _ _ _ _); (refine AYld.of tok mixed ?_); conv => whnf) | ((with_reducible show forceH _ _); (refine (forceH_eq _ _).mpr ?_); conv => whnf) | ((with_reducible show ACall _ _ _ _ _); (refine ACall.of_pure (by assumption) (by rfl) ?_); conv => whnf) | ((with_reducible show Exists _); (refine ⟨_, ACall.of_pure (by assumption) (by rfl) ⟨rfl, rfl⟩, ?_⟩); conv => whnf) | ((with_reducible show ∃ L, drawR L _ = true ∧ _); (refine ⟨[], by kernel_rfl, ?_⟩); conv => whnf) | ((with_reducible show _ ∧ _ ∧ _); (refine ⟨by omega, by omega, ?_⟩); conv => whnf) | fail)
  exact weak_ren_to [(0, true), (1, true)] rfl rfl rfl ⟨rfl, trivial⟩
def zeroS : Sp := ⟨0, zeroD, zeroD⟩
def putE (s : Sp) (l : Ml) (p : Px) (w : Nat) : Int := bif leafR s p then (if 4611686018427387904 - totM l < w then 13 else 0) else 1
def putM (s : Sp) (l : Ml) (p : Px) (w : Nat) : Ml := if putE s l p w = 0 then addM l p w else l
theorem put_nil (p : Px) (w : Nat) : PCall P 14 [.nilp, pxv p, .int .u64 (w : Int)] (.int .i64 6) := by
  have q1 := made_nil
  refine PCall.of_awp tok mixed fn14 (Nat.le_of_ble_eq_true rfl) ?_
  (conv => whnf); (repeat' first | ((with_reducible refine Box.mk ?_); conv => whnf) | ((with_reducible refine And.intro (fun _ => ?_) (fun _ => ?_)) <;> conv => whnf) | ((with_reducible show AYld _ _ _ _ _); (refine AYld.of tok mixed ?_); conv => whnf) | ((with_reducible show forceH _ _); (refine (forceH_eq _ _).mpr ?_); conv => whnf) | ((with_reducible show ACall _ _ _ _ _); (refine ACall.of_pure (by assumption) (by rfl) ?_); conv => whnf) | ((with_reducible show Exists _); (refine ⟨_, ACall.of_pure (by assumption) (by rfl) ⟨rfl, rfl⟩, ?_⟩); conv => whnf) | ((with_reducible show ∃ L, drawR L _ = true ∧ _); (refine ⟨[], by kernel_rfl, ?_⟩); conv => whnf) | ((with_reducible show _ ∧ _ ∧ _); (refine ⟨by omega, by omega, ?_⟩); conv => whnf) | fail)
  rfl
theorem look_le {l : Ml} (p : Px) : look l p ≤ totM l := by
  by_cases h : p ∈ keysM l
  · induction l with
    | nil => exact Nat.zero_le _
    | cons x l ih =>
      rw [look, totM, sumF_cons, cond_true]
      split
      · omega
      · rename_i hne
        rcases List.mem_cons.1 (show p ∈ x.1 :: keysM l from h) with e | e
        · exact absurd e.symm hne
        · have : look l p ≤ sumF (fun _ => true) l := ih e
          omega
  · rw [look_none h]; exact Nat.zero_le _
/-- What a map holds where a weight is put at a key that is there. -/
theorem addM_set {v : Nat → AV} : ∀ {l : Ml} {i k : Nat} {x : Px × Nat} (w : Nat), (keysM l).Nodup → l[i]? = some x → (mes v k l).set i (pcs x.1, v (x.2 + w), k + i) = mes v k (addM l x.1 w)
  | [], _, _, _, _, _, h => by simp at h
  | y :: l, 0, k, x, w, _, h => by
    simp only [List.getElem?_cons_zero, Option.some.injEq] at h
    subst h
    rw [addM, if_pos rfl]; rfl
  | y :: l, i + 1, k, x, w, hn, h => by
    rw [List.getElem?_cons_succ] at h
    have hn' := List.nodup_cons.1 (show (y.1 :: keysM l).Nodup from hn)
    rw [addM, if_neg (fun e => hn'.1 (by rw [e]; exact List.mem_map.2 ⟨x, List.mem_of_getElem? h, rfl⟩)), mes, mes, List.set_cons_succ, show k + (i + 1) = k + 1 + i by omega, addM_set w hn'.2 h]
theorem addM_new {l : Ml} {p : Px} (w : Nat) (h : p ∉ keysM l) : addM l p w = l ++ [(p, w)] := by
  induction l with
  | nil => rfl
  | cons x l ih =>
    have h : p ∉ x.1 :: keysM l := h
    rw [List.mem_cons, not_or] at h
    rw [addM, if_neg (fun e => h.1 e.symm), ih h.2]; rfl
theorem addM_len_in {l : Ml} {p : Px} (w : Nat) (h : p ∈ keysM l) : (addM l p w).length = l.length := by
  have := keys_addM p w l
  rw [if_pos h] at this
  have e := congrArg List.length this
  unfold keysM at e
  simpa using e
theorem tot_addM (l : Ml) (p : Px) (w : Nat) : totM (addM l p w) = totM l + w := sumF_addM _ p w l
theorem put_bad (s : Sp) (l : Ml) (p : Px) (hp : POk p) (w : Nat) (hr : leafR s p = false) : DCall P 14 [.ptr 0 0, pxv p, .int .u64 (w : Int)] (MH s l) (.int .i64 1) (MH s l) := by
  have q1 := made_ok s l
  have q2 := pRight_ok s p hp
  have q3 := height_ok s p hp
  unfold leafR at hr
  generalize rightP s p = r at *
  generalize heightP s p = h at *
  cases r
  · refine DCall.of_awp tok mixed fn14 (Nat.le_of_ble_eq_true rfl) ?_
    (conv => whnf); (repeat' first | ((with_reducible refine Box.mk ?_); conv => whnf) | ((with_reducible refine And.intro (fun _ => ?_) (fun _ => ?_)) <;> conv => whnf) | ((with_reducible show AYld _ _ _ _ _); (refine AYld.of tok mixed ?_); conv => whnf) | ((with_reducible show forceH _ _); (refine (forceH_eq _ _).mpr ?_); conv => whnf) | ((with_reducible show ACall _ _ _ _ _); (refine ACall.of_pure (by assumption) (by rfl) ?_); conv => whnf) | ((with_reducible show Exists _); (refine ⟨_, ACall.of_pure (by assumption) (by rfl) ⟨rfl, rfl⟩, ?_⟩); conv => whnf) | ((with_reducible show ∃ L, drawR L _ = true ∧ _); (refine ⟨[], by kernel_rfl, ?_⟩); conv => whnf) | ((with_reducible show _ ∧ _ ∧ _); (refine ⟨by omega, by omega, ?_⟩); conv => whnf) | fail)
    refine aW [0, 1] q1 rfl rfl rfl ?_
    (conv => whnf); (repeat' first | ((with_reducible refine Box.mk ?_); conv => whnf) | ((with_reducible refine And.intro (fun _ => ?_) (fun _ => ?_)) <;> conv => whnf) | ((with_reducible show AYld _ _ _ _ _); (refine AYld.of tok mixed ?_); conv => whnf) | ((with_reducible show forceH _ _); (refine (forceH_eq _ _).mpr ?_); conv => whnf) | ((with_reducible show ACall _ _ _ _ _); (refine ACall.of_pure (by assumption) (by rfl) ?_); conv => whnf) | ((with_reducible show Exists _); (refine ⟨_, ACall.of_pure (by assumption) (by rfl) ⟨rfl, rfl⟩, ?_⟩); conv => whnf) | ((with_reducible show ∃ L, drawR L _ = true ∧ _); (refine ⟨[], by kernel_rfl, ?_⟩); conv => whnf) | ((with_reducible show _ ∧ _ ∧ _); (refine ⟨by omega, by omega, ?_⟩); conv => whnf) | fail)
    exact weak_ren_to [(0, true), (1, true)] rfl rfl rfl ⟨rfl, trivial⟩
  · have hh : 0 < h := by
      have := of_decide_eq_false (show decide (h ≤ 0) = false from hr)
      omega
    refine DCall.of_awp tok mixed fn14 (Nat.le_of_ble_eq_true rfl) ?_
    (conv => whnf); (repeat' first | ((with_reducible refine Box.mk ?_); conv => whnf) | ((with_reducible refine And.intro (fun _ => ?_) (fun _ => ?_)) <;> conv => whnf) | ((with_reducible show AYld _ _ _ _ _); (refine AYld.of tok mixed ?_); conv => whnf) | ((with_reducible show forceH _ _); (refine (forceH_eq _ _).mpr ?_); conv => whnf) | ((with_reducible show ACall _ _ _ _ _); (refine ACall.of_pure (by assumption) (by rfl) ?_); conv => whnf) | ((with_reducible show Exists _); (refine ⟨_, ACall.of_pure (by assumption) (by rfl) ⟨rfl, rfl⟩, ?_⟩); conv => whnf) | ((with_reducible show _ ∧ _ ∧ _); (refine ⟨by omega, by omega, ?_⟩); conv => whnf) | fail)
    refine aW [0, 1] q1 rfl rfl rfl ?_
    (conv => whnf); (repeat' first | ((with_reducible refine Box.mk ?_); conv => whnf) | ((with_reducible refine And.intro (fun _ => ?_) (fun _ => ?_)) <;> conv => whnf) | ((with_reducible show AYld _ _ _ _ _); (refine AYld.of tok mixed ?_); conv => whnf) | ((with_reducible show forceH _ _); (refine (forceH_eq _ _).mpr ?_); conv => whnf) | ((with_reducible show ACall _ _ _ _ _); (refine ACall.of_pure (by assumption) (by rfl) ?_); conv => whnf) | ((with_reducible show Exists _); (refine ⟨_, ACall.of_pure (by assumption) (by rfl) ⟨rfl, rfl⟩, ?_⟩); conv => whnf) | ((with_reducible show _ ∧ _ ∧ _); (refine ⟨by omega, by omega, ?_⟩); conv => whnf) | fail)
    refine ⟨[], by kernel_rfl, ?_⟩
    (conv => whnf); (repeat' first | ((with_reducible refine Box.mk ?_); conv => whnf) | ((with_reducible refine And.intro (fun _ => ?_) (fun _ => ?_)) <;> conv => whnf) | ((with_reducible show AYld _ _ _ _ _); (refine AYld.of tok mixed ?_); conv => whnf) | ((with_reducible show forceH _ _); (refine (forceH_eq _ _).mpr ?_); conv => whnf) | ((with_reducible show ACall _ _ _ _ _); (refine ACall.of_pure (by assumption) (by rfl) ?_); conv => whnf) | ((with_reducible show Exists _); (refine ⟨_, ACall.of_pure (by assumption) (by rfl) ⟨rfl, rfl⟩, ?_⟩); conv => whnf) | ((with_reducible show _ ∧ _ ∧ _); (refine ⟨by omega, by omega, ?_⟩); conv => whnf) | fail)
    all_goals first
      | (exfalso; omega)
      | exact weak_ren_to [(0, true), (1, true)] rfl rfl rfl ⟨rfl, trivial⟩
theorem put_over (s : Sp) (l : Ml) (p : Px) (hp : POk p) (w : Nat) (ht : totM l ≤ 4611686018427387904) (hr : leafR s p = true) (ho : 4611686018427387904 - totM l < w) :
    DCall P 14 [.ptr 0 0, pxv p, .int .u64 (w : Int)] (MH s l) (.int .i64 13) (MH s l) := by
  have q1 := made_ok s l
  have q2 := pRight_ok s p hp
  have q3 := height_ok s p hp
  have e1 : IntKind.u64.wrap (4611686018427387904 - (totM l : Int)) = ((4611686018427387904 - totM l : Nat) : Int) := by rw [wrap_u64 (by omega) (by omega)]; omega
  unfold leafR at hr
  rw [Bool.and_eq_true] at hr
  have hh := of_decide_eq_true hr.2
  rw [hr.1] at q2
  generalize heightP s p = h at *
  refine DCall.of_awp tok mixed fn14 (Nat.le_of_ble_eq_true rfl) ?_
  (conv => whnf); (repeat' first | ((with_reducible refine Box.mk ?_); conv => whnf) | ((with_reducible refine And.intro (fun _ => ?_) (fun _ => ?_)) <;> conv => whnf) | ((with_reducible show AYld _ _ _ _ _); (refine AYld.of tok mixed ?_); conv => whnf) | ((with_reducible show forceH _ _); (refine (forceH_eq _ _).mpr ?_); conv => whnf) | ((with_reducible show ACall _ _ _ _ _); (refine ACall.of_pure (by assumption) (by rfl) ?_); conv => whnf) | ((with_reducible show Exists _); (refine ⟨_, ACall.of_pure (by assumption) (by rfl) ⟨rfl, rfl⟩, ?_⟩); conv => whnf) | ((with_reducible show _ ∧ _ ∧ _); (refine ⟨by omega, by omega, ?_⟩); conv => whnf) | fail)
  refine aW [0, 1] q1 rfl rfl rfl ?_
  (conv => whnf); (repeat' first | ((with_reducible refine Box.mk ?_); conv => whnf) | ((with_reducible refine And.intro (fun _ => ?_) (fun _ => ?_)) <;> conv => whnf) | ((with_reducible show AYld _ _ _ _ _); (refine AYld.of tok mixed ?_); conv => whnf) | ((with_reducible show forceH _ _); (refine (forceH_eq _ _).mpr ?_); conv => whnf) | ((with_reducible show ACall _ _ _ _ _); (refine ACall.of_pure (by assumption) (by rfl) ?_); conv => whnf) | ((with_reducible show Exists _); (refine ⟨_, ACall.of_pure (by assumption) (by rfl) ⟨rfl, rfl⟩, ?_⟩); conv => whnf) | ((with_reducible show _ ∧ _ ∧ _); (refine ⟨by omega, by omega, ?_⟩); conv => whnf) | fail)
  refine ⟨[], by kernel_rfl, ?_⟩
  (conv => whnf); (repeat' first | ((with_reducible refine Box.mk ?_); conv => whnf) | ((with_reducible refine And.intro (fun _ => ?_) (fun _ => ?_)) <;> conv => whnf) | ((with_reducible show AYld _ _ _ _ _); (refine AYld.of tok mixed ?_); conv => whnf) | ((with_reducible show forceH _ _); (refine (forceH_eq _ _).mpr ?_); conv => whnf) | ((with_reducible show ACall _ _ _ _ _); (refine ACall.of_pure (by assumption) (by rfl) ?_); conv => whnf) | ((with_reducible show Exists _); (refine ⟨_, ACall.of_pure (by assumption) (by rfl) ⟨rfl, rfl⟩, ?_⟩); conv => whnf) | ((with_reducible show _ ∧ _ ∧ _); (refine ⟨by omega, by omega, ?_⟩); conv => whnf) | fail)
  all_goals first
    | (exfalso; omega)
    | exact weak_ren_to [(0, true), (1, true)] rfl rfl rfl ⟨rfl, trivial⟩
theorem put_good (s : Sp) (l : Ml) (hn : (keysM l).Nodup) (p : Px) (hp : POk p) (w : Nat) (ht : totM l ≤ 4611686018427387904) (hr : leafR s p = true) (ho : w ≤ 4611686018427387904 - totM l) :
    DCall P 14 [.ptr 0 0, pxv p, .int .u64 (w : Int)] (MH s l) (.int .i64 0) (MH s (addM l p w)) := by
  have q1 := made_ok s l
  have q2 := pRight_ok s p hp
  have q3 := height_ok s p hp
  have hlk := look_le (l := l) p
  have e1 : IntKind.u64.wrap (4611686018427387904 - (totM l : Int)) = ((4611686018427387904 - totM l : Nat) : Int) := by rw [wrap_u64 (by omega) (by omega)]; omega
  have e2 : IntKind.u64.wrap ((totM l : Int) + (w : Int)) = ((totM (addM l p w) : Nat) : Int) := by rw [wrap_u64 (by omega) (by omega), tot_addM]; omega
  unfold leafR at hr
  rw [Bool.and_eq_true] at hr
  have hh := of_decide_eq_true hr.2
  rw [hr.1] at q2
  generalize heightP s p = h at *
  refine DCall.of_awp tok mixed fn14 (Nat.le_of_ble_eq_true rfl) ?_
  (conv => whnf); (repeat' first | ((with_reducible refine Box.mk ?_); conv => whnf) | ((with_reducible refine And.intro (fun _ => ?_) (fun _ => ?_)) <;> conv => whnf) | ((with_reducible show AYld _ _ _ _ _); (refine AYld.of tok mixed ?_); conv => whnf) | ((with_reducible show forceH _ _); (refine (forceH_eq _ _).mpr ?_); conv => whnf) | ((with_reducible show ACall _ _ _ _ _); (refine ACall.of_pure (by assumption) (by rfl) ?_); conv => whnf) | ((with_reducible show Exists _); (refine ⟨_, ACall.of_pure (by assumption) (by rfl) ⟨rfl, rfl⟩, ?_⟩); conv => whnf) | ((with_reducible show _ ∧ _ ∧ _); (refine ⟨by omega, by omega, ?_⟩); conv => whnf) | fail)
  refine aW [0, 1] q1 rfl rfl rfl ?_
  (conv => whnf); (repeat' first | ((with_reducible refine Box.mk ?_); conv => whnf) | ((with_reducible refine And.intro (fun _ => ?_) (fun _ => ?_)) <;> conv => whnf) | ((with_reducible show AYld _ _ _ _ _); (refine AYld.of tok mixed ?_); conv => whnf) | ((with_reducible show forceH _ _); (refine (forceH_eq _ _).mpr ?_); conv => whnf) | ((with_reducible show ACall _ _ _ _ _); (refine ACall.of_pure (by assumption) (by rfl) ?_); conv => whnf) | ((with_reducible show Exists _); (refine ⟨_, ACall.of_pure (by assumption) (by rfl) ⟨rfl, rfl⟩, ?_⟩); conv => whnf) | ((with_reducible show _ ∧ _ ∧ _); (refine ⟨by omega, by omega, ?_⟩); conv => whnf) | fail)
  refine ⟨[], by kernel_rfl, ?_⟩
  (conv => whnf); (repeat' first | ((with_reducible refine Box.mk ?_); conv => whnf) | ((with_reducible refine And.intro (fun _ => ?_) (fun _ => ?_)) <;> conv => whnf) | ((with_reducible show AYld _ _ _ _ _); (refine AYld.of tok mixed ?_); conv => whnf) | ((with_reducible show forceH _ _); (refine (forceH_eq _ _).mpr ?_); conv => whnf) | ((with_reducible show ACall _ _ _ _ _); (refine ACall.of_pure (by assumption) (by rfl) ?_); conv => whnf) | ((with_reducible show Exists _); (refine ⟨_, ACall.of_pure (by assumption) (by rfl) ⟨rfl, rfl⟩, ?_⟩); conv => whnf) | ((with_reducible show _ ∧ _ ∧ _); (refine ⟨by omega, by omega, ?_⟩); conv => whnf) | fail)
  all_goals try (exfalso; omega)
  refine ⟨[(8, [5])], by kernel_rfl, ?_⟩
  (conv => whnf); (repeat' first | ((with_reducible refine Box.mk ?_); conv => whnf) | ((with_reducible refine And.intro (fun _ => ?_) (fun _ => ?_)) <;> conv => whnf) | ((with_reducible show AYld _ _ _ _ _); (refine AYld.of tok mixed ?_); conv => whnf) | ((with_reducible show forceH _ _); (refine (forceH_eq _ _).mpr ?_); conv => whnf) | ((with_reducible show ACall _ _ _ _ _); (refine ACall.of_pure (by assumption) (by rfl) ?_); conv => whnf) | ((with_reducible show Exists _); (refine ⟨_, ACall.of_pure (by assumption) (by rfl) ⟨rfl, rfl⟩, ?_⟩); conv => whnf) | ((with_reducible show _ ∧ _ ∧ _); (refine ⟨by omega, by omega, ?_⟩); conv => whnf) | fail)
  by_cases hin : p ∈ keysM l
  · obtain ⟨x, hx, hxp⟩ := List.mem_map.1 hin
    obtain ⟨i, hi⟩ := List.getElem?_of_mem hx
    have hlx : look l p = x.2 := by rw [← hxp]; exact look_mem hn hx
    have e3 : IntKind.u64.wrap ((x.2 : Int) + (w : Int)) = ((x.2 + w : Nat) : Int) := by rw [wrap_u64 (by omega) (by omega)]; omega
    refine ⟨mes_ok hn, at_yes rfl hn hi (by rw [hxp]; rfl) ?_⟩
    (conv => whnf); (repeat' first | ((with_reducible refine Box.mk ?_); conv => whnf) | ((with_reducible refine And.intro (fun _ => ?_) (fun _ => ?_)) <;> conv => whnf) | ((with_reducible show AYld _ _ _ _ _); (refine AYld.of tok mixed ?_); conv => whnf) | ((with_reducible show forceH _ _); (refine (forceH_eq _ _).mpr ?_); conv => whnf) | ((with_reducible show ACall _ _ _ _ _); (refine ACall.of_pure (by assumption) (by rfl) ?_); conv => whnf) | ((with_reducible show Exists _); (refine ⟨_, ACall.of_pure (by assumption) (by rfl) ⟨rfl, rfl⟩, ?_⟩); conv => whnf) | ((with_reducible show _ ∧ _ ∧ _); (refine ⟨by omega, by omega, ?_⟩); conv => whnf) | fail)
    refine ⟨mes_ok hn, at_yes rfl hn hi (by rw [hxp]; rfl) ?_⟩
    (conv => whnf); (repeat' first | ((with_reducible refine Box.mk ?_); conv => whnf) | ((with_reducible refine And.intro (fun _ => ?_) (fun _ => ?_)) <;> conv => whnf) | ((with_reducible show AYld _ _ _ _ _); (refine AYld.of tok mixed ?_); conv => whnf) | ((with_reducible show forceH _ _); (refine (forceH_eq _ _).mpr ?_); conv => whnf) | ((with_reducible show ACall _ _ _ _ _); (refine ACall.of_pure (by assumption) (by rfl) ?_); conv => whnf) | ((with_reducible show Exists _); (refine ⟨_, ACall.of_pure (by assumption) (by rfl) ⟨rfl, rfl⟩, ?_⟩); conv => whnf) | ((with_reducible show _ ∧ _ ∧ _); (refine ⟨by omega, by omega, ?_⟩); conv => whnf) | fail)
    refine ⟨⟨⟨mes_ok hn, at_yes rfl hn hi (by rw [hxp]; rfl) ⟨rfl, rfl⟩⟩, trivial⟩, ?_⟩
    (conv => whnf); (repeat' first | ((with_reducible refine Box.mk ?_); conv => whnf) | ((with_reducible refine And.intro (fun _ => ?_) (fun _ => ?_)) <;> conv => whnf) | ((with_reducible show AYld _ _ _ _ _); (refine AYld.of tok mixed ?_); conv => whnf) | ((with_reducible show forceH _ _); (refine (forceH_eq _ _).mpr ?_); conv => whnf) | ((with_reducible show ACall _ _ _ _ _); (refine ACall.of_pure (by assumption) (by rfl) ?_); conv => whnf) | ((with_reducible show Exists _); (refine ⟨_, ACall.of_pure (by assumption) (by rfl) ⟨rfl, rfl⟩, ?_⟩); conv => whnf) | ((with_reducible show _ ∧ _ ∧ _); (refine ⟨by omega, by omega, ?_⟩); conv => whnf) | fail)
    refine ⟨mes_ok hn, at_stamp hi rfl ?_⟩
    (conv => whnf); (repeat' first | ((with_reducible refine Box.mk ?_); conv => whnf) | ((with_reducible refine And.intro (fun _ => ?_) (fun _ => ?_)) <;> conv => whnf) | ((with_reducible show AYld _ _ _ _ _); (refine AYld.of tok mixed ?_); conv => whnf) | ((with_reducible show forceH _ _); (refine (forceH_eq _ _).mpr ?_); conv => whnf) | ((with_reducible show ACall _ _ _ _ _); (refine ACall.of_pure (by assumption) (by rfl) ?_); conv => whnf) | ((with_reducible show Exists _); (refine ⟨_, ACall.of_pure (by assumption) (by rfl) ⟨rfl, rfl⟩, ?_⟩); conv => whnf) | ((with_reducible show _ ∧ _ ∧ _); (refine ⟨by omega, by omega, ?_⟩); conv => whnf) | fail)
    refine weak_ren_to [(0, true), (1, true)] rfl rfl ?_ ⟨rfl, trivial⟩
    show [Ob.box 94 [.int .i64 s.n, .int .i64 s.d0.kind, .int .i64 s.d0.side, .int .i64 s.d0.step, .int .i64 s.d1.kind, .int .i64 s.d1.side, .int .i64 s.d1.step, .int .u64 (IntKind.u64.wrap ((totM l : Int) + (w : Int))), .own 1], Ob.map pks ((mes u64V 0 l).set i (pcs x.1, .int .u64 (IntKind.u64.wrap ((x.2 : Int) + (w : Int))), i)) l.length] = MH s (addM l p w)
    have e4 := addM_set (v := u64V) (k := 0) w hn hi
    rw [Nat.zero_add, hxp] at e4
    rw [e2, e3, hxp]
    show [_, Ob.map pks ((mes u64V 0 l).set i (pcs p, u64V (x.2 + w), i)) l.length] = _
    rw [e4, ← addM_len_in w hin]
    rfl
  · have hlx : look l p = 0 := look_none hin
    have e3 : IntKind.u64.wrap (0 + (w : Int)) = (w : Int) := by rw [wrap_u64 (by omega) (by omega)]; omega
    have es : mes u64V 0 (l ++ [(p, 0)]) = mes u64V 0 l ++ [(pcs p, AV.int .u64 0, l.length)] := by rw [mes_snoc, Nat.zero_add]; rfl
    have hn2 : (keysM (l ++ [(p, 0)])).Nodup := by
      have := nodup_addM hn p 0
      rwa [addM_new 0 hin] at this
    have hi : (l ++ [(p, 0)])[l.length]? = some (p, 0) := by simp
    refine ⟨mes_ok hn, at_no rfl hin rfl ?_⟩
    (conv => whnf); (repeat' first | ((with_reducible refine Box.mk ?_); conv => whnf) | ((with_reducible refine And.intro (fun _ => ?_) (fun _ => ?_)) <;> conv => whnf) | ((with_reducible show AYld _ _ _ _ _); (refine AYld.of tok mixed ?_); conv => whnf) | ((with_reducible show forceH _ _); (refine (forceH_eq _ _).mpr ?_); conv => whnf) | ((with_reducible show ACall _ _ _ _ _); (refine ACall.of_pure (by assumption) (by rfl) ?_); conv => whnf) | ((with_reducible show Exists _); (refine ⟨_, ACall.of_pure (by assumption) (by rfl) ⟨rfl, rfl⟩, ?_⟩); conv => whnf) | ((with_reducible show _ ∧ _ ∧ _); (refine ⟨by omega, by omega, ?_⟩); conv => whnf) | fail)
    refine ⟨mes_ok hn, at_no rfl hin rfl ?_⟩
    (conv => whnf); (repeat' first | ((with_reducible refine Box.mk ?_); conv => whnf) | ((with_reducible refine And.intro (fun _ => ?_) (fun _ => ?_)) <;> conv => whnf) | ((with_reducible show AYld _ _ _ _ _); (refine AYld.of tok mixed ?_); conv => whnf) | ((with_reducible show forceH _ _); (refine (forceH_eq _ _).mpr ?_); conv => whnf) | ((with_reducible show ACall _ _ _ _ _); (refine ACall.of_pure (by assumption) (by rfl) ?_); conv => whnf) | ((with_reducible show Exists _); (refine ⟨_, ACall.of_pure (by assumption) (by rfl) ⟨rfl, rfl⟩, ?_⟩); conv => whnf) | ((with_reducible show _ ∧ _ ∧ _); (refine ⟨by omega, by omega, ?_⟩); conv => whnf) | fail)
    refine ⟨⟨⟨mes_ok' es hn2, at_yes' es rfl hn2 hi rfl ⟨rfl, rfl⟩⟩, trivial⟩, ?_⟩
    (conv => whnf); (repeat' first | ((with_reducible refine Box.mk ?_); conv => whnf) | ((with_reducible refine And.intro (fun _ => ?_) (fun _ => ?_)) <;> conv => whnf) | ((with_reducible show AYld _ _ _ _ _); (refine AYld.of tok mixed ?_); conv => whnf) | ((with_reducible show forceH _ _); (refine (forceH_eq _ _).mpr ?_); conv => whnf) | ((with_reducible show ACall _ _ _ _ _); (refine ACall.of_pure (by assumption) (by rfl) ?_); conv => whnf) | ((with_reducible show Exists _); (refine ⟨_, ACall.of_pure (by assumption) (by rfl) ⟨rfl, rfl⟩, ?_⟩); conv => whnf) | ((with_reducible show _ ∧ _ ∧ _); (refine ⟨by omega, by omega, ?_⟩); conv => whnf) | fail)
    refine ⟨mes_ok' es hn2, at_stamp' es hi rfl ?_⟩
    (conv => whnf); (repeat' first | ((with_reducible refine Box.mk ?_); conv => whnf) | ((with_reducible refine And.intro (fun _ => ?_) (fun _ => ?_)) <;> conv => whnf) | ((with_reducible show AYld _ _ _ _ _); (refine AYld.of tok mixed ?_); conv => whnf) | ((with_reducible show forceH _ _); (refine (forceH_eq _ _).mpr ?_); conv => whnf) | ((with_reducible show ACall _ _ _ _ _); (refine ACall.of_pure (by assumption) (by rfl) ?_); conv => whnf) | ((with_reducible show Exists _); (refine ⟨_, ACall.of_pure (by assumption) (by rfl) ⟨rfl, rfl⟩, ?_⟩); conv => whnf) | ((with_reducible show _ ∧ _ ∧ _); (refine ⟨by omega, by omega, ?_⟩); conv => whnf) | fail)
    refine weak_ren_to [(0, true), (1, true)] rfl rfl ?_ ⟨rfl, trivial⟩
    show [Ob.box 94 [.int .i64 s.n, .int .i64 s.d0.kind, .int .i64 s.d0.side, .int .i64 s.d0.step, .int .i64 s.d1.kind, .int .i64 s.d1.side, .int .i64 s.d1.step, .int .u64 (IntKind.u64.wrap ((totM l : Int) + (w : Int))), .own 1], Ob.map pks ((mes u64V 0 l ++ [(pcs p, AV.int .u64 0, l.length)]).set l.length (pcs p, .int .u64 (IntKind.u64.wrap (0 + (w : Int))), l.length)) (l.length + 1)] = MH s (addM l p w)
    have e4 := addM_set (v := u64V) (k := 0) w hn2 hi
    rw [Nat.zero_add, es, Nat.zero_add] at e4
    have e5 : addM (l ++ [(p, 0)]) p w = addM l p w := by
      have e6 := addM_new 0 hin
      have e7 : ∀ r : Ml, p ∉ keysM r → addM (r ++ [(p, 0)]) p w = r ++ [(p, w)] := by
        intro r hr
        induction r with
        | nil => show (if p = p then _ else _) = _; rw [if_pos rfl, Nat.zero_add]; rfl
        | cons y r ih =>
          have hr : p ∉ y.1 :: keysM r := hr
          rw [List.mem_cons, not_or] at hr
          rw [List.cons_append, addM, if_neg (fun e => hr.1 e.symm), ih hr.2]; rfl
      rw [e7 l hin, addM_new w hin]
    rw [e2, e3]
    show [_, Ob.map pks ((mes u64V 0 l ++ [(pcs p, AV.int .u64 0, l.length)]).set l.length (pcs p, u64V w, l.length)) (l.length + 1)] = _
    rw [e4, e5]
    have e8 : (addM l p w).length = l.length + 1 := by rw [addM_new w hin, List.length_append]; rfl
    rw [← e8]
    rfl
theorem put_ok (s : Sp) (l : Ml) (hI : MI s l) (p : Px) (hp : POk p) (w : Nat) :
    DCall P 14 [.ptr 0 0, pxv p, .int .u64 (w : Int)] (MH s l) (.int .i64 (putE s l p w)) (MH s (putM s l p w)) := by
  unfold putM putE
  cases hr : leafR s p
  · rw [cond_false, if_neg (by decide)]
    exact put_bad s l p hp w hr
  · rw [cond_true]
    by_cases ho : 4611686018427387904 - totM l < w
    · rw [if_pos ho, if_neg (by decide)]
      exact put_over s l p hp w hI.tot hr ho
    · rw [if_neg ho, if_pos rfl]
      exact put_good s l hI.nodup p hp w hI.tot hr (by omega)
end Go.Proofs.YtgaohmfmomeflaaGreatDoor
end

section
/- model: Weight. -/
namespace Go.Proofs.YtgaohmfmomeflaaGreatDoor
open Go.Ve

/-- What has been gone through of a list, by places. -/
def atL (l : Ml) (g : Px × Nat → Nat) (b : Nat) : Nat := match l[b]? with
  | some x => g x
  | none => 0
theorem seen_perm {seen : List Nat} {n : Nat} (h1 : seen.Nodup) (h2 : ∀ b ∈ seen, b < n) (h3 : ∀ b, b < n → b ∈ seen) : seen.Perm (List.range n) := by
  rw [List.perm_ext_iff_of_nodup h1 List.nodup_range]
  intro a
  rw [List.mem_range]
  exact ⟨h2 a, h3 a⟩
theorem seen_sub {seen : List Nat} {n : Nat} (h1 : seen.Nodup) (h2 : ∀ b ∈ seen, b < n) : ∃ t, (seen ++ t).Perm (List.range n) := by
  refine ⟨(List.range n).filter fun b => decide (b ∉ seen), seen_perm ?_ ?_ ?_⟩
  · rw [List.nodup_append]
    refine ⟨h1, List.Pairwise.filter _ List.nodup_range, fun a ha b hb e => ?_⟩
    have := of_decide_eq_true (List.mem_filter.1 hb).2
    exact this (e ▸ ha)
  · intro b hb
    rcases List.mem_append.1 hb with hb | hb
    · exact h2 b hb
    · exact List.mem_range.1 (List.mem_filter.1 hb).1
  · intro b hb
    rw [List.mem_append]
    by_cases h : b ∈ seen
    · exact .inl h
    · exact .inr (List.mem_filter.2 ⟨List.mem_range.2 hb, decide_eq_true h⟩)
theorem seen_len {seen : List Nat} {n : Nat} (h1 : seen.Nodup) (h2 : ∀ b ∈ seen, b < n) : seen.length ≤ n := by
  obtain ⟨t, ht⟩ := seen_sub h1 h2
  have := ht.length_eq
  rw [List.length_append, List.length_range] at this
  omega
theorem seen_more {seen : List Nat} {n b : Nat} (h1 : seen.Nodup) (h2 : ∀ b ∈ seen, b < n) (hb : b < n) (hs : b ∉ seen) : (seen ++ [b]).Nodup ∧ (∀ c ∈ seen ++ [b], c < n) ∧ seen.length < n := by
  have hx : (seen ++ [b]).Nodup := by
    rw [List.nodup_append]
    refine ⟨h1, by simp, fun a ha c hc e => hs ?_⟩
    rw [← List.mem_singleton.1 hc, ← e]; exact ha
  have hy : ∀ c ∈ seen ++ [b], c < n := fun c hc => by
    rcases List.mem_append.1 hc with hc | hc
    · exact h2 c hc
    · rw [List.mem_singleton.1 hc]; exact hb
  have := seen_len hx hy
  rw [List.length_append] at this
  exact ⟨hx, hy, by simp at this; omega⟩
theorem at_sum (l : Ml) (g : Px × Nat → Nat) : ((List.range l.length).map (atL l g)).sum = (l.map g).sum := by
  congr 1
  refine List.ext_getElem? fun i => ?_
  rw [List.getElem?_map, List.getElem?_map]
  rcases Nat.lt_or_ge i l.length with h | h
  · rw [List.getElem?_range h, Option.map_some, atL, List.getElem?_eq_getElem h]; rfl
  · rw [List.getElem?_eq_none (by simpa using h), List.getElem?_eq_none h]; rfl
theorem part_le {l : Ml} {g : Px × Nat → Nat} {seen : List Nat} (h1 : seen.Nodup) (h2 : ∀ b ∈ seen, b < l.length) : (seen.map (atL l g)).sum ≤ (l.map g).sum := by
  rw [← at_sum l g]
  obtain ⟨t, ht⟩ := seen_sub h1 h2
  rw [← (ht.map (atL l g)).sum_nat, List.map_append, List.sum_append]
  exact Nat.le_add_right _ _
def wsum (s : Sp) (l : Ml) (p : Px) (seen : List Nat) : Nat := (seen.map (atL l fun x => bif overP s p x.1 then x.2 else 0)).sum
theorem weight_nil (p : Px) : PCall P 23 [.nilp, pxv p] (.int .u64 0) := by
  have q1 := made_nil
  refine PCall.of_awp tok mixed fn23 (Nat.le_of_ble_eq_true rfl) ?_
  (conv => whnf); (repeat' first | ((with_reducible refine Box.mk ?_); conv => whnf) | ((with_reducible refine And.intro (fun _ => ?_) (fun _ => ?_)) <;> conv => whnf) | ((with_reducible show AYld _ _ _ _ _); (refine AYld.of tok mixed ?_); conv => whnf) | ((with_reducible show forceH _ _); (refine (forceH_eq _ _).mpr ?_); conv => whnf) | ((with_reducible show ACall _ _ _ _ _); (refine ACall.of_pure (by assumption) (by rfl) ?_); conv => whnf) | ((with_reducible show Exists _); (refine ⟨_, ACall.of_pure (by assumption) (by rfl) ⟨rfl, rfl⟩, ?_⟩); conv => whnf) | ((with_reducible show ∃ L, drawR L _ = true ∧ _); (refine ⟨[], by kernel_rfl, ?_⟩); conv => whnf) | ((with_reducible show _ ∧ _ ∧ _); (refine ⟨by omega, by omega, ?_⟩); conv => whnf) | fail)
  rfl
theorem weight_ok (s : Sp) (l : Ml) (hI : MI s l) (p : Px) (hp : POk p) : DCall P 23 [.ptr 0 0, pxv p] (MH s l) (.int .u64 (wgt s l p : Int)) (MH s l) := by
  have q1 := made_ok s l
  have ht := hI.tot
  have hw : wgt s l p ≤ totM l := sumF_le _ _
  refine DCall.of_awp tok mixed fn23 (Nat.le_of_ble_eq_true rfl) ?_
  (conv => whnf); (repeat' first | ((with_reducible refine Box.mk ?_); conv => whnf) | ((with_reducible refine And.intro (fun _ => ?_) (fun _ => ?_)) <;> conv => whnf) | ((with_reducible show AYld _ _ _ _ _); (refine AYld.of tok mixed ?_); conv => whnf) | ((with_reducible show forceH _ _); (refine (forceH_eq _ _).mpr ?_); conv => whnf) | ((with_reducible show ACall _ _ _ _ _); (refine ACall.of_pure (by assumption) (by rfl) ?_); conv => whnf) | ((with_reducible show Exists _); (refine ⟨_, ACall.of_pure (by assumption) (by rfl) ⟨rfl, rfl⟩, ?_⟩); conv => whnf) | ((with_reducible show ∃ L, drawR L _ = true ∧ _); (refine ⟨[], by kernel_rfl, ?_⟩); conv => whnf) | ((with_reducible show _ ∧ _ ∧ _); (refine ⟨by omega, by omega, ?_⟩); conv => whnf) | fail)
  refine aW [0, 1] q1 rfl rfl rfl ?_
  (conv => whnf); (repeat' first | ((with_reducible refine Box.mk ?_); conv => whnf) | ((with_reducible refine And.intro (fun _ => ?_) (fun _ => ?_)) <;> conv => whnf) | ((with_reducible show AYld _ _ _ _ _); (refine AYld.of tok mixed ?_); conv => whnf) | ((with_reducible show forceH _ _); (refine (forceH_eq _ _).mpr ?_); conv => whnf) | ((with_reducible show ACall _ _ _ _ _); (refine ACall.of_pure (by assumption) (by rfl) ?_); conv => whnf) | ((with_reducible show Exists _); (refine ⟨_, ACall.of_pure (by assumption) (by rfl) ⟨rfl, rfl⟩, ?_⟩); conv => whnf) | ((with_reducible show ∃ L, drawR L _ = true ∧ _); (refine ⟨[], by kernel_rfl, ?_⟩); conv => whnf) | ((with_reducible show _ ∧ _ ∧ _); (refine ⟨by omega, by omega, ?_⟩); conv => whnf) | fail)
  refine aloop (fun seen : List Nat => seen.Nodup ∧ ∀ b ∈ seen, b < l.length) (fun seen => ⟨envL [(0, .ptr 0 0), (3, .ptr 2 0), (5, .int .u64 (wsum s l p seen : Int)), (15, .own 3)], MH s l ++ [.box 34 (pcs p), .iter (some 1) l.length seen l.length]⟩) (fun seen => l.length - seen.length) []
    ⟨List.nodup_nil, fun b hb => by cases hb⟩ (weak_to ⟨rfl, rfl, rfl, rfl, trivial⟩ rfl) ?_
  rintro seen ⟨hn, hb⟩
  have hsl := seen_len hn hb
  (conv => whnf); (repeat' first | ((with_reducible refine Box.mk ?_); conv => whnf) | ((with_reducible refine And.intro (fun _ => ?_) (fun _ => ?_)) <;> conv => whnf) | ((with_reducible show AYld _ _ _ _ _); (refine AYld.of tok mixed ?_); conv => whnf) | ((with_reducible show forceH _ _); (refine (forceH_eq _ _).mpr ?_); conv => whnf) | ((with_reducible show ACall _ _ _ _ _); (refine ACall.of_pure (by assumption) (by rfl) ?_); conv => whnf) | ((with_reducible show Exists _); (refine ⟨_, ACall.of_pure (by assumption) (by rfl) ⟨rfl, rfl⟩, ?_⟩); conv => whnf) | ((with_reducible show ∃ L, drawR L _ = true ∧ _); (refine ⟨[], by kernel_rfl, ?_⟩); conv => whnf) | ((with_reducible show _ ∧ _ ∧ _); (refine ⟨by omega, by omega, ?_⟩); conv => whnf) | fail)
  refine ⟨Nat.le_refl _, mes_lt, fun e he hns => ?_, fun hall => ?_⟩
  · obtain ⟨j, hj⟩ := List.getElem?_of_mem he
    obtain ⟨x, hx, rfl⟩ := mes_at hj
    have hjl : j < l.length := (List.getElem?_eq_some_iff.1 hx).1
    obtain ⟨m1, m2, m3⟩ := seen_more hn hb hjl hns
    have hxo : POk x.1 := hI.ok.at (List.mem_of_getElem? hx)
    have q2 := pOver_ok s p x.1 hp hxo
    have hle := part_le (g := fun x => bif overP s p x.1 then x.2 else 0) m1 m2
    have hsn : wsum s l p (seen ++ [j]) = wsum s l p seen + (bif overP s p x.1 then x.2 else 0) := by
      unfold wsum
      rw [List.map_append, List.sum_append]
      simp [atL, hx]
    have hle2 : wsum s l p (seen ++ [j]) ≤ wgt s l p := hle
    (conv => whnf); (repeat' first | ((with_reducible refine Box.mk ?_); conv => whnf) | ((with_reducible refine And.intro (fun _ => ?_) (fun _ => ?_)) <;> conv => whnf) | ((with_reducible show AYld _ _ _ _ _); (refine AYld.of tok mixed ?_); conv => whnf) | ((with_reducible show forceH _ _); (refine (forceH_eq _ _).mpr ?_); conv => whnf) | ((with_reducible show ACall _ _ _ _ _); (refine ACall.of_pure (by assumption) (by rfl) ?_); conv => whnf) | ((with_reducible show Exists _); (refine ⟨_, ACall.of_pure (by assumption) (by rfl) ⟨rfl, rfl⟩, ?_⟩); conv => whnf) | ((with_reducible show ∃ L, drawR L _ = true ∧ _); (refine ⟨[], by kernel_rfl, ?_⟩); conv => whnf) | ((with_reducible show _ ∧ _ ∧ _); (refine ⟨by omega, by omega, ?_⟩); conv => whnf) | fail)
    refine ⟨rfl, _, he, by simp, ?_⟩
    generalize overP s p x.1 = ov at q2 hsn
    cases ov
    · (conv => whnf); (repeat' first | ((with_reducible refine Box.mk ?_); conv => whnf) | ((with_reducible refine And.intro (fun _ => ?_) (fun _ => ?_)) <;> conv => whnf) | ((with_reducible show AYld _ _ _ _ _); (refine AYld.of tok mixed ?_); conv => whnf) | ((with_reducible show forceH _ _); (refine (forceH_eq _ _).mpr ?_); conv => whnf) | ((with_reducible show ACall _ _ _ _ _); (refine ACall.of_pure (by assumption) (by rfl) ?_); conv => whnf) | ((with_reducible show Exists _); (refine ⟨_, ACall.of_pure (by assumption) (by rfl) ⟨rfl, rfl⟩, ?_⟩); conv => whnf) | ((with_reducible show ∃ L, drawR L _ = true ∧ _); (refine ⟨[], by kernel_rfl, ?_⟩); conv => whnf) | ((with_reducible show _ ∧ _ ∧ _); (refine ⟨by omega, by omega, ?_⟩); conv => whnf) | fail)
      refine ⟨seen ++ [j], ⟨m1, m2⟩, by simp; omega, weak_ren_to [(0, true), (1, true), (2, true), (3, true)] rfl rfl rfl ⟨rfl, rfl, congrArg (AV.int .u64) (by rw [hsn]; simp), rfl, trivial⟩⟩
    · (conv => whnf); (repeat' first | ((with_reducible refine Box.mk ?_); conv => whnf) | ((with_reducible refine And.intro (fun _ => ?_) (fun _ => ?_)) <;> conv => whnf) | ((with_reducible show AYld _ _ _ _ _); (refine AYld.of tok mixed ?_); conv => whnf) | ((with_reducible show forceH _ _); (refine (forceH_eq _ _).mpr ?_); conv => whnf) | ((with_reducible show ACall _ _ _ _ _); (refine ACall.of_pure (by assumption) (by rfl) ?_); conv => whnf) | ((with_reducible show Exists _); (refine ⟨_, ACall.of_pure (by assumption) (by rfl) ⟨rfl, rfl⟩, ?_⟩); conv => whnf) | ((with_reducible show ∃ L, drawR L _ = true ∧ _); (refine ⟨[], by kernel_rfl, ?_⟩); conv => whnf) | ((with_reducible show _ ∧ _ ∧ _); (refine ⟨by omega, by omega, ?_⟩); conv => whnf) | fail)
      refine ⟨seen ++ [j], ⟨m1, m2⟩, by simp; omega, weak_ren_to [(0, true), (1, true), (2, true), (3, true)] rfl rfl rfl ⟨rfl, rfl, congrArg (AV.int .u64) ?_, rfl, trivial⟩⟩
      rw [cond_true] at hsn
      show IntKind.u64.wrap ((wsum s l p seen : Int) + (x.2 : Int)) = (wsum s l p (seen ++ [j]) : Int)
      rw [wrap_u64 (by omega) (by omega), hsn]; omega
  · have hp2 := seen_perm hn hb fun b hbl => by
      have := hall _ (List.mem_of_getElem? (i := b) (by rw [mes_get, List.getElem?_eq_getElem hbl, Option.map_some]))
      rwa [Nat.zero_add] at this
    have hfin : wsum s l p seen = wgt s l p := by
      unfold wsum wgt sumF
      rw [← at_sum]
      exact (hp2.map _).sum_nat
    (conv => whnf); (repeat' first | ((with_reducible refine Box.mk ?_); conv => whnf) | ((with_reducible refine And.intro (fun _ => ?_) (fun _ => ?_)) <;> conv => whnf) | ((with_reducible show AYld _ _ _ _ _); (refine AYld.of tok mixed ?_); conv => whnf) | ((with_reducible show forceH _ _); (refine (forceH_eq _ _).mpr ?_); conv => whnf) | ((with_reducible show ACall _ _ _ _ _); (refine ACall.of_pure (by assumption) (by rfl) ?_); conv => whnf) | ((with_reducible show Exists _); (refine ⟨_, ACall.of_pure (by assumption) (by rfl) ⟨rfl, rfl⟩, ?_⟩); conv => whnf) | ((with_reducible show ∃ L, drawR L _ = true ∧ _); (refine ⟨[], by kernel_rfl, ?_⟩); conv => whnf) | ((with_reducible show _ ∧ _ ∧ _); (refine ⟨by omega, by omega, ?_⟩); conv => whnf) | fail)
    refine weak_ren_to [(0, true), (1, true)] rfl rfl rfl ⟨congrArg (AV.int .u64) ?_, trivial⟩
    rw [← hfin]
end Go.Proofs.YtgaohmfmomeflaaGreatDoor
end

section
/- model: the sort of an empty row; the orders; the keys of a map, gone through and put in order. -/
namespace Go.Proofs.YtgaohmfmomeflaaGreatDoor
open Go.Ve

theorem lib_Len (n : Nat) (hn : n < 4294967296) : PCall P 115 [.int .u64 (n : Int)] (.int .i64 (Lib.bitLen n : Nat)) := by
  unfold PCall
  refine ⟨fn115.callable, fun M0 w vs hM hG hv => ?_⟩
  obtain ⟨hl, hv⟩ := hv
  obtain ⟨v0, rfl⟩ : ∃ v0, vs = [v0] := by
    match vs, hl with
    | [a], _ => exact ⟨a, rfl⟩
  have e0 := (hv 0 _ rfl).int_inv
  simp at e0
  subst e0
  have h := Any.bits_Len (SlLaysF0.n15.bits (P := P) (ρ := Tryz.sortP_ren) { Tryz.sortP with }) (n : Int) w (by omega) (by omega)
  rw [Int.toNat_natCast] at h
  refine Calls.mono (show Calls P 115 _ w _ from h) ?_
  rintro e w' ⟨rfl, rfl⟩
  exact ⟨_, rfl, Below.refl _ _, .int _ _ _⟩
theorem insert_nil (g : FuncId) : DCall P 136 [.own 0, .int .i64 0, .int .i64 0, .fn g []] [.row 34 12 []] (.tup []) [.row 34 12 []] := by
  refine DCall.of_awp tok mixed fn136 (Nat.le_of_ble_eq_true rfl) ?_
  (conv => whnf); (repeat' first | ((with_reducible refine Box.mk ?_); conv => whnf) | ((with_reducible refine And.intro (fun _ => ?_) (fun _ => ?_)) <;> conv => whnf) | ((with_reducible show AYld _ _ _ _ _); (refine AYld.of tok mixed ?_); conv => whnf) | ((with_reducible show forceH _ _); (refine (forceH_eq _ _).mpr ?_); conv => whnf) | ((with_reducible show ACall _ _ _ _ _); (refine ACall.of_pure (by assumption) (by rfl) ?_); conv => whnf) | ((with_reducible show Exists _); (refine ⟨_, ACall.of_pure (by assumption) (by rfl) ⟨rfl, rfl⟩, ?_⟩); conv => whnf) | ((with_reducible show _ ∧ _ ∧ _); (refine ⟨by omega, by omega, ?_⟩); conv => whnf) | fail)
  refine aloop (fun _ : Unit => True) (fun _ => ⟨envL [(2, .int .i64 0), (8, .int .i64 1)], [.row 34 12 []]⟩) (fun _ => 0) () trivial (weak_to ⟨rfl, rfl, trivial⟩ rfl) ?_
  rintro _ _
  (conv => whnf); (repeat' first | ((with_reducible refine Box.mk ?_); conv => whnf) | ((with_reducible refine And.intro (fun _ => ?_) (fun _ => ?_)) <;> conv => whnf) | ((with_reducible show AYld _ _ _ _ _); (refine AYld.of tok mixed ?_); conv => whnf) | ((with_reducible show forceH _ _); (refine (forceH_eq _ _).mpr ?_); conv => whnf) | ((with_reducible show ACall _ _ _ _ _); (refine ACall.of_pure (by assumption) (by rfl) ?_); conv => whnf) | ((with_reducible show Exists _); (refine ⟨_, ACall.of_pure (by assumption) (by rfl) ⟨rfl, rfl⟩, ?_⟩); conv => whnf) | ((with_reducible show _ ∧ _ ∧ _); (refine ⟨by omega, by omega, ?_⟩); conv => whnf) | fail)
  · rename_i h; exact absurd h (by decide)
  · exact weak_to ⟨rfl, trivial⟩ rfl
theorem pdq_nil (g : FuncId) (k : Int) : DCall P 114 [.own 0, .int .i64 0, .int .i64 0, .int .i64 k, .fn g []] [.row 34 12 []] (.tup []) [.row 34 12 []] := by
  refine DCall.of_awp tok mixed fn114 (Nat.le_of_ble_eq_true rfl) ?_
  (conv => whnf); (repeat' first | ((with_reducible refine Box.mk ?_); conv => whnf) | ((with_reducible refine And.intro (fun _ => ?_) (fun _ => ?_)) <;> conv => whnf) | ((with_reducible show AYld _ _ _ _ _); (refine AYld.of tok mixed ?_); conv => whnf) | ((with_reducible show forceH _ _); (refine (forceH_eq _ _).mpr ?_); conv => whnf) | ((with_reducible show ACall _ _ _ _ _); (refine ACall.of_pure (by assumption) (by rfl) ?_); conv => whnf) | ((with_reducible show Exists _); (refine ⟨_, ACall.of_pure (by assumption) (by rfl) ⟨rfl, rfl⟩, ?_⟩); conv => whnf) | ((with_reducible show _ ∧ _ ∧ _); (refine ⟨by omega, by omega, ?_⟩); conv => whnf) | fail)
  refine aloop (fun _ : Unit => True) (fun _ => ⟨envL [(0, .own 0), (1, .int .i64 0), (2, .int .i64 0), (3, .int .i64 k), (4, .fn g []), (10, .bool true), (11, .bool true)], [.row 34 12 []]⟩) (fun _ => 0) () trivial (weak_to ⟨rfl, rfl, rfl, rfl, rfl, rfl, rfl, trivial⟩ rfl) ?_
  rintro _ _
  (conv => whnf); (repeat' first | ((with_reducible refine Box.mk ?_); conv => whnf) | ((with_reducible refine And.intro (fun _ => ?_) (fun _ => ?_)) <;> conv => whnf) | ((with_reducible show AYld _ _ _ _ _); (refine AYld.of tok mixed ?_); conv => whnf) | ((with_reducible show forceH _ _); (refine (forceH_eq _ _).mpr ?_); conv => whnf) | ((with_reducible show ACall _ _ _ _ _); (refine ACall.of_pure (by assumption) (by rfl) ?_); conv => whnf) | ((with_reducible show Exists _); (refine ⟨_, ACall.of_pure (by assumption) (by rfl) ⟨rfl, rfl⟩, ?_⟩); conv => whnf) | ((with_reducible show _ ∧ _ ∧ _); (refine ⟨by omega, by omega, ?_⟩); conv => whnf) | fail)
  · refine aW [0] (insert_nil g) rfl rfl rfl ?_
    (conv => whnf); (repeat' first | ((with_reducible refine Box.mk ?_); conv => whnf) | ((with_reducible refine And.intro (fun _ => ?_) (fun _ => ?_)) <;> conv => whnf) | ((with_reducible show AYld _ _ _ _ _); (refine AYld.of tok mixed ?_); conv => whnf) | ((with_reducible show forceH _ _); (refine (forceH_eq _ _).mpr ?_); conv => whnf) | ((with_reducible show ACall _ _ _ _ _); (refine ACall.of_pure (by assumption) (by rfl) ?_); conv => whnf) | ((with_reducible show Exists _); (refine ⟨_, ACall.of_pure (by assumption) (by rfl) ⟨rfl, rfl⟩, ?_⟩); conv => whnf) | ((with_reducible show _ ∧ _ ∧ _); (refine ⟨by omega, by omega, ?_⟩); conv => whnf) | fail)
    exact weak_to ⟨rfl, trivial⟩ rfl
  all_goals (exfalso; rename_i h _; exact absurd (show IntKind.i64.wrap (0 - 0) ≤ 12 by decide) h)
theorem sortF_nil (g : FuncId) : DCall P 82 [.own 0, .fn g []] [.row 34 12 []] (.tup []) [.row 34 12 []] := by
  have q1 := lib_Len 0 (by decide)
  have e1 : IntKind.u64.wrap 0 = ((0 : Nat) : Int) := by decide
  refine DCall.of_awp tok mixed fn82 (Nat.le_of_ble_eq_true rfl) ?_
  (conv => whnf); (repeat' first | ((with_reducible refine Box.mk ?_); conv => whnf) | ((with_reducible refine And.intro (fun _ => ?_) (fun _ => ?_)) <;> conv => whnf) | ((with_reducible show AYld _ _ _ _ _); (refine AYld.of tok mixed ?_); conv => whnf) | ((with_reducible show forceH _ _); (refine (forceH_eq _ _).mpr ?_); conv => whnf) | ((with_reducible show ACall _ _ _ _ _); (refine ACall.of_pure (by assumption) (by rfl) ?_); conv => whnf) | ((with_reducible show Exists _); (refine ⟨_, ACall.of_pure (by assumption) (by rfl) ⟨rfl, rfl⟩, ?_⟩); conv => whnf) | ((with_reducible show _ ∧ _ ∧ _); (refine ⟨by omega, by omega, ?_⟩); conv => whnf) | fail)
  refine aW [0] (pdq_nil g _) rfl rfl rfl ?_
  (conv => whnf); (repeat' first | ((with_reducible refine Box.mk ?_); conv => whnf) | ((with_reducible refine And.intro (fun _ => ?_) (fun _ => ?_)) <;> conv => whnf) | ((with_reducible show AYld _ _ _ _ _); (refine AYld.of tok mixed ?_); conv => whnf) | ((with_reducible show forceH _ _); (refine (forceH_eq _ _).mpr ?_); conv => whnf) | ((with_reducible show ACall _ _ _ _ _); (refine ACall.of_pure (by assumption) (by rfl) ?_); conv => whnf) | ((with_reducible show Exists _); (refine ⟨_, ACall.of_pure (by assumption) (by rfl) ⟨rfl, rfl⟩, ?_⟩); conv => whnf) | ((with_reducible show _ ∧ _ ∧ _); (refine ⟨by omega, by omega, ?_⟩); conv => whnf) | fail)
  exact weak_to ⟨rfl, trivial⟩ rfl
/-- The sort, over a row of the call's own, empty or not. -/
theorem sortF_ok {c : Px → Px → Int} {g : FuncId} (hc : ∀ x y, @PCall told P g [pxv x, pxv y] (.int .i64 (c x y))) (hT : TO c) (h0 : ∀ x y, c x y = 0 → x = y) (l : List Px) (hl : l.length < 4611686018427387904) :
    DCall P 82 [.own 0, .fn g []] [.row 34 12 (pcl l)] (.tup []) [.row 34 12 (pcl (srt c l))] := by
  cases l with
  | nil =>
    have e : srt c [] = [] := List.length_eq_zero_iff.1 (by rw [srt_len]; rfl)
    rw [e]
    exact sortF_nil g
  | cons x r => exact sortF_own hc hT h0 (x :: r) hl (by simp)
theorem hgt_eq (p q : Px) : hgtP p q = orI [cmpI (IntKind.i64.wrap (p.a0 + p.a1)) (IntKind.i64.wrap (q.a0 + q.a1)), cmpP p q] := by rw [or2]; rfl
theorem byHeight_ok [Dr] (p q : Px) : PCall P 53 [pxv p, pxv q] (.int .i64 (hgtP p q)) := by
  have q1 := pCmp_ok p q
  have q2 := cmpI_ok (IntKind.i64.wrap (p.a0 + p.a1)) (IntKind.i64.wrap (q.a0 + q.a1))
  have q3 := or_ok [cmpI (IntKind.i64.wrap (p.a0 + p.a1)) (IntKind.i64.wrap (q.a0 + q.a1)), cmpP p q] (by simp)
  rw [hgt_eq]
  generalize cmpP p q = z at *
  generalize cmpI (IntKind.i64.wrap (p.a0 + p.a1)) (IntKind.i64.wrap (q.a0 + q.a1)) = y at *
  refine PCall.of_awp tok mixed fn53 (Nat.le_of_ble_eq_true rfl) ?_
  (conv => whnf); (repeat' first | ((with_reducible refine Box.mk ?_); conv => whnf) | ((with_reducible refine And.intro (fun _ => ?_) (fun _ => ?_)) <;> conv => whnf) | ((with_reducible show AYld _ _ _ _ _); (refine AYld.of tok mixed ?_); conv => whnf) | ((with_reducible show forceH _ _); (refine (forceH_eq _ _).mpr ?_); conv => whnf) | ((with_reducible show ACall _ _ _ _ _); (refine ACall.of_pure (by assumption) (by rfl) ?_); conv => whnf) | ((with_reducible show Exists _); (refine ⟨_, ACall.of_pure (by assumption) (by rfl) ⟨rfl, rfl⟩, ?_⟩); conv => whnf) | ((with_reducible show ∃ L, drawR L _ = true ∧ _); (refine ⟨[], by kernel_rfl, ?_⟩); conv => whnf) | ((with_reducible show _ ∧ _ ∧ _); (refine ⟨by omega, by omega, ?_⟩); conv => whnf) | fail)
  refine ⟨_, ACall.of_view q3 rfl rfl ⟨rfl, rfl⟩, ?_⟩
  (conv => whnf); (repeat' first | ((with_reducible refine Box.mk ?_); conv => whnf) | ((with_reducible refine And.intro (fun _ => ?_) (fun _ => ?_)) <;> conv => whnf) | ((with_reducible show AYld _ _ _ _ _); (refine AYld.of tok mixed ?_); conv => whnf) | ((with_reducible show forceH _ _); (refine (forceH_eq _ _).mpr ?_); conv => whnf) | ((with_reducible show ACall _ _ _ _ _); (refine ACall.of_pure (by assumption) (by rfl) ?_); conv => whnf) | ((with_reducible show Exists _); (refine ⟨_, ACall.of_pure (by assumption) (by rfl) ⟨rfl, rfl⟩, ?_⟩); conv => whnf) | ((with_reducible show ∃ L, drawR L _ = true ∧ _); (refine ⟨[], by kernel_rfl, ?_⟩); conv => whnf) | ((with_reducible show _ ∧ _ ∧ _); (refine ⟨by omega, by omega, ?_⟩); conv => whnf) | fail)
  rfl

/-! ### a map's keys, gone through -/
def keyAt (l : Ml) (b : Nat) : Px := match l[b]? with
  | some x => x.1
  | none => zeroP
def prS (l : Ml) (seen : List Nat) : List Px := seen.map (keyAt l)
theorem prS_all {l : Ml} {seen : List Nat} (h : seen.Perm (List.range l.length)) : (prS l seen).Perm (keysM l) := by
  have e : (List.range l.length).map (keyAt l) = keysM l := by
    refine List.ext_getElem? fun i => ?_
    unfold keysM
    rw [List.getElem?_map, List.getElem?_map]
    rcases Nat.lt_or_ge i l.length with h | h
    · rw [List.getElem?_range h, Option.map_some, keyAt, List.getElem?_eq_getElem h]; rfl
    · rw [List.getElem?_eq_none (by simpa using h), List.getElem?_eq_none h]; rfl
  rw [← e]
  exact h.map _
theorem srt_of_perm {c : Px → Px → Int} (hT : TO c) (h0 : ∀ x y, c x y = 0 → x = y) {l r : List Px} (hn : r.Nodup) (h : l.Perm r) : srt c l = srt c r :=
  (srt_ord hT h0 (h.nodup_iff.2 hn)).ext hT (srt_ord hT h0 hn) fun x => by rw [srt_mem, srt_mem, h.mem_iff]
/-- The keys' objects: the map, the variable that holds it. -/
def KH (v : Nat → AV) (tm : Nat) (l : Ml) : Hp := [.map pks (mes v 0 l) l.length, .box tm [.own 0]]
theorem keysI_fn (l : Ml) : DCall P 52 [.own 0] [.map pks (mes i64V 0 l) l.length] (.fn 83 [.ptr 1 0]) (KH i64V 106 l) := by
  refine DCall.of_awp tok mixed fn52 (Nat.le_of_ble_eq_true rfl) ?_
  (conv => whnf); (repeat' first | ((with_reducible refine Box.mk ?_); conv => whnf) | ((with_reducible refine And.intro (fun _ => ?_) (fun _ => ?_)) <;> conv => whnf) | ((with_reducible show AYld _ _ _ _ _); (refine AYld.of tok mixed ?_); conv => whnf) | ((with_reducible show forceH _ _); (refine (forceH_eq _ _).mpr ?_); conv => whnf) | ((with_reducible show ACall _ _ _ _ _); (refine ACall.of_pure (by assumption) (by rfl) ?_); conv => whnf) | ((with_reducible show Exists _); (refine ⟨_, ACall.of_pure (by assumption) (by rfl) ⟨rfl, rfl⟩, ?_⟩); conv => whnf) | ((with_reducible show ∃ L, drawR L _ = true ∧ _); (refine ⟨[], by kernel_rfl, ?_⟩); conv => whnf) | ((with_reducible show _ ∧ _ ∧ _); (refine ⟨by omega, by omega, ?_⟩); conv => whnf) | fail)
  exact weak_to ⟨rfl, trivial⟩ rfl
theorem keysU_fn (l : Ml) : DCall P 58 [.own 0] [.map pks (mes u64V 0 l) l.length] (.fn 90 [.ptr 1 0]) (KH u64V 92 l) := by
  refine DCall.of_awp tok mixed fn58 (Nat.le_of_ble_eq_true rfl) ?_
  (conv => whnf); (repeat' first | ((with_reducible refine Box.mk ?_); conv => whnf) | ((with_reducible refine And.intro (fun _ => ?_) (fun _ => ?_)) <;> conv => whnf) | ((with_reducible show AYld _ _ _ _ _); (refine AYld.of tok mixed ?_); conv => whnf) | ((with_reducible show forceH _ _); (refine (forceH_eq _ _).mpr ?_); conv => whnf) | ((with_reducible show ACall _ _ _ _ _); (refine ACall.of_pure (by assumption) (by rfl) ?_); conv => whnf) | ((with_reducible show Exists _); (refine ⟨_, ACall.of_pure (by assumption) (by rfl) ⟨rfl, rfl⟩, ?_⟩); conv => whnf) | ((with_reducible show ∃ L, drawR L _ = true ∧ _); (refine ⟨[], by kernel_rfl, ?_⟩); conv => whnf) | ((with_reducible show _ ∧ _ ∧ _); (refine ⟨by omega, by omega, ?_⟩); conv => whnf) | fail)
  exact weak_to ⟨rfl, trivial⟩ rfl
theorem seqI_ok (l : Ml) (hl : l.length ≤ 34359738368) : ACall P 113 [.nils, .fn 83 [.ptr 1 0]] (KH i64V 106 l) fun r H' =>
    ∃ k : List Px, k.Perm (keysM l) ∧ r = .own 2 ∧ H' = KH i64V 106 l ++ [.row 34 12 (pcl k)] := by
  refine ACall.of_awpW tok mixed fn113 (Nat.le_of_ble_eq_true rfl) ?_
  (conv => whnf); (repeat' first | ((with_reducible refine Box.mk ?_); conv => whnf) | ((with_reducible refine And.intro (fun _ => ?_) (fun _ => ?_)) <;> conv => whnf) | ((with_reducible show AYld _ _ _ _ _); (refine AYld.of tok mixed ?_); conv => whnf) | ((with_reducible show forceH _ _); (refine (forceH_eq _ _).mpr ?_); conv => whnf) | ((with_reducible show ACall _ _ _ _ _); (refine ACall.of_pure (by assumption) (by rfl) ?_); conv => whnf) | ((with_reducible show Exists _); (refine ⟨_, ACall.of_pure (by assumption) (by rfl) ⟨rfl, rfl⟩, ?_⟩); conv => whnf) | ((with_reducible show ∃ L, drawR L _ = true ∧ _); (refine ⟨[], by kernel_rfl, ?_⟩); conv => whnf) | ((with_reducible show _ ∧ _ ∧ _); (refine ⟨by omega, by omega, ?_⟩); conv => whnf) | fail)
  refine arange [(2, .ptr 2 0)] ⟨rfl, trivial⟩ rfl trivial ?_
  refine ACall.of_awp tok mixed fn83 (Nat.le_of_ble_eq_true rfl) ?_
  (conv => whnf); (repeat' first | ((with_reducible refine Box.mk ?_); conv => whnf) | ((with_reducible refine And.intro (fun _ => ?_) (fun _ => ?_)) <;> conv => whnf) | ((with_reducible show AYld _ _ _ _ _); (refine AYld.of tok mixed ?_); conv => whnf) | ((with_reducible show forceH _ _); (refine (forceH_eq _ _).mpr ?_); conv => whnf) | ((with_reducible show ACall _ _ _ _ _); (refine ACall.of_pure (by assumption) (by rfl) ?_); conv => whnf) | ((with_reducible show Exists _); (refine ⟨_, ACall.of_pure (by assumption) (by rfl) ⟨rfl, rfl⟩, ?_⟩); conv => whnf) | ((with_reducible show ∃ L, drawR L _ = true ∧ _); (refine ⟨[], by kernel_rfl, ?_⟩); conv => whnf) | ((with_reducible show _ ∧ _ ∧ _); (refine ⟨by omega, by omega, ?_⟩); conv => whnf) | fail)
  refine aloopH (fun seen : List Nat => seen.Nodup ∧ ∀ b ∈ seen, b < l.length) (fun _ => [(0, .own 3), (5, .own 4)])
    (fun seen H => (H.set 2 (.box 60 [.own 5])).set 4 (.iter (some 0) l.length seen l.length) ++ [.row 34 12 (pcl (prS l seen))]) (fun seen => l.length - seen.length) [] ⟨List.nodup_nil, fun b hb => by cases hb⟩
    (by exact weak_nilrow _ _ (by decide) ⟨.inl rfl, .inl rfl, trivial⟩ ⟨.inl rfl, .inl rfl, .inr ⟨rfl, .inr ⟨rfl, rfl⟩, trivial⟩, .inl rfl, .inl rfl, trivial⟩) ?_
  rintro seen ⟨hn2, hb⟩
  (conv => whnf); (repeat' first | ((with_reducible refine Box.mk ?_); conv => whnf) | ((with_reducible refine And.intro (fun _ => ?_) (fun _ => ?_)) <;> conv => whnf) | ((with_reducible show AYld _ _ _ _ _); (refine AYld.of tok mixed ?_); conv => whnf) | ((with_reducible show forceH _ _); (refine (forceH_eq _ _).mpr ?_); conv => whnf) | ((with_reducible show ACall _ _ _ _ _); (refine ACall.of_pure (by assumption) (by rfl) ?_); conv => whnf) | ((with_reducible show Exists _); (refine ⟨_, ACall.of_pure (by assumption) (by rfl) ⟨rfl, rfl⟩, ?_⟩); conv => whnf) | ((with_reducible show ∃ L, drawR L _ = true ∧ _); (refine ⟨[], by kernel_rfl, ?_⟩); conv => whnf) | ((with_reducible show _ ∧ _ ∧ _); (refine ⟨by omega, by omega, ?_⟩); conv => whnf) | fail)
  refine ⟨Nat.le_refl _, mes_lt, fun e he hns => ?_, fun hall => ?_⟩
  · obtain ⟨j, hj⟩ := List.getElem?_of_mem he
    obtain ⟨x, hx, rfl⟩ := mes_at hj
    have hjl : j < l.length := (List.getElem?_eq_some_iff.1 hx).1
    obtain ⟨m1, m2, m3⟩ := seen_more hn2 hb hjl hns
    have hps : prS l (seen ++ [j]) = prS l seen ++ [x.1] := by
      unfold prS; rw [List.map_append]; simp [keyAt, hx]
    have hpl : (pcl (prS l seen)).length = seen.length := by rw [pcl_len]; simp [prS]
    (conv => whnf); (repeat' first | ((with_reducible refine Box.mk ?_); conv => whnf) | ((with_reducible refine And.intro (fun _ => ?_) (fun _ => ?_)) <;> conv => whnf) | ((with_reducible show AYld _ _ _ _ _); (refine AYld.of tok mixed ?_); conv => whnf) | ((with_reducible show forceH _ _); (refine (forceH_eq _ _).mpr ?_); conv => whnf) | ((with_reducible show ACall _ _ _ _ _); (refine ACall.of_pure (by assumption) (by rfl) ?_); conv => whnf) | ((with_reducible show Exists _); (refine ⟨_, ACall.of_pure (by assumption) (by rfl) ⟨rfl, rfl⟩, ?_⟩); conv => whnf) | ((with_reducible show ∃ L, drawR L _ = true ∧ _); (refine ⟨[], by kernel_rfl, ?_⟩); conv => whnf) | ((with_reducible show _ ∧ _ ∧ _); (refine ⟨by omega, by omega, ?_⟩); conv => whnf) | fail)
    refine ⟨rfl, _, he, by simp, ?_⟩
    (conv => whnf); (repeat' first | ((with_reducible refine Box.mk ?_); conv => whnf) | ((with_reducible refine And.intro (fun _ => ?_) (fun _ => ?_)) <;> conv => whnf) | ((with_reducible show AYld _ _ _ _ _); (refine AYld.of tok mixed ?_); conv => whnf) | ((with_reducible show forceH _ _); (refine (forceH_eq _ _).mpr ?_); conv => whnf) | ((with_reducible show ACall _ _ _ _ _); (refine ACall.of_pure (by assumption) (by rfl) ?_); conv => whnf) | ((with_reducible show Exists _); (refine ⟨_, ACall.of_pure (by assumption) (by rfl) ⟨rfl, rfl⟩, ?_⟩); conv => whnf) | ((with_reducible show ∃ L, drawR L _ = true ∧ _); (refine ⟨[], by kernel_rfl, ?_⟩); conv => whnf) | ((with_reducible show _ ∧ _ ∧ _); (refine ⟨by omega, by omega, ?_⟩); conv => whnf) | fail)
    refine ⟨fun c hc => by rw [List.mem_singleton.1 hc]; exact ⟨rfl, rfl⟩, by rw [hpl]; show (_ + 1) * 112 ≤ _; omega, by rw [hpl]; show _ + 1 ≤ _; omega, ?_⟩
    (conv => whnf); (repeat' first | ((with_reducible refine Box.mk ?_); conv => whnf) | ((with_reducible refine And.intro (fun _ => ?_) (fun _ => ?_)) <;> conv => whnf) | ((with_reducible show AYld _ _ _ _ _); (refine AYld.of tok mixed ?_); conv => whnf) | ((with_reducible show forceH _ _); (refine (forceH_eq _ _).mpr ?_); conv => whnf) | ((with_reducible show ACall _ _ _ _ _); (refine ACall.of_pure (by assumption) (by rfl) ?_); conv => whnf) | ((with_reducible show Exists _); (refine ⟨_, ACall.of_pure (by assumption) (by rfl) ⟨rfl, rfl⟩, ?_⟩); conv => whnf) | ((with_reducible show ∃ L, drawR L _ = true ∧ _); (refine ⟨[], by kernel_rfl, ?_⟩); conv => whnf) | ((with_reducible show _ ∧ _ ∧ _); (refine ⟨by omega, by omega, ?_⟩); conv => whnf) | fail)
    refine ⟨seen ++ [j], ⟨m1, m2⟩, by simp; omega, weak_ren_to [(0, true), (1, true), (2, true), (3, true), (4, true), (9, true)] rfl rfl ?_ ⟨rfl, rfl, trivial⟩⟩
    rw [hps, ← pcl_snoc]
    rfl
  · have hp2 := seen_perm hn2 hb fun b hbl => by
      have := hall _ (List.mem_of_getElem? (i := b) (by rw [mes_get, List.getElem?_eq_getElem hbl, Option.map_some]))
      rwa [Nat.zero_add] at this
    (conv => whnf); (repeat' first | ((with_reducible refine Box.mk ?_); conv => whnf) | ((with_reducible refine And.intro (fun _ => ?_) (fun _ => ?_)) <;> conv => whnf) | ((with_reducible show AYld _ _ _ _ _); (refine AYld.of tok mixed ?_); conv => whnf) | ((with_reducible show forceH _ _); (refine (forceH_eq _ _).mpr ?_); conv => whnf) | ((with_reducible show ACall _ _ _ _ _); (refine ACall.of_pure (by assumption) (by rfl) ?_); conv => whnf) | ((with_reducible show Exists _); (refine ⟨_, ACall.of_pure (by assumption) (by rfl) ⟨rfl, rfl⟩, ?_⟩); conv => whnf) | ((with_reducible show ∃ L, drawR L _ = true ∧ _); (refine ⟨[], by kernel_rfl, ?_⟩); conv => whnf) | ((with_reducible show _ ∧ _ ∧ _); (refine ⟨by omega, by omega, ?_⟩); conv => whnf) | fail)
    exact ⟨.own 2, _, weak_ren_to [(0, true), (1, true), (5, true)] rfl rfl rfl ⟨rfl, trivial⟩, prS l seen, prS_all hp2, rfl, rfl⟩
theorem seqU_ok (l : Ml) (hl : l.length ≤ 34359738368) : ACall P 113 [.nils, .fn 90 [.ptr 1 0]] (KH u64V 92 l) fun r H' =>
    ∃ k : List Px, k.Perm (keysM l) ∧ r = .own 2 ∧ H' = KH u64V 92 l ++ [.row 34 12 (pcl k)] := by
  refine ACall.of_awpW tok mixed fn113 (Nat.le_of_ble_eq_true rfl) ?_
  (conv => whnf); (repeat' first | ((with_reducible refine Box.mk ?_); conv => whnf) | ((with_reducible refine And.intro (fun _ => ?_) (fun _ => ?_)) <;> conv => whnf) | ((with_reducible show AYld _ _ _ _ _); (refine AYld.of tok mixed ?_); conv => whnf) | ((with_reducible show forceH _ _); (refine (forceH_eq _ _).mpr ?_); conv => whnf) | ((with_reducible show ACall _ _ _ _ _); (refine ACall.of_pure (by assumption) (by rfl) ?_); conv => whnf) | ((with_reducible show Exists _); (refine ⟨_, ACall.of_pure (by assumption) (by rfl) ⟨rfl, rfl⟩, ?_⟩); conv => whnf) | ((with_reducible show ∃ L, drawR L _ = true ∧ _); (refine ⟨[], by kernel_rfl, ?_⟩); conv => whnf) | ((with_reducible show _ ∧ _ ∧ _); (refine ⟨by omega, by omega, ?_⟩); conv => whnf) | fail)
  refine arange [(2, .ptr 2 0)] ⟨rfl, trivial⟩ rfl trivial ?_
  refine ACall.of_awp tok mixed fn90 (Nat.le_of_ble_eq_true rfl) ?_
  (conv => whnf); (repeat' first | ((with_reducible refine Box.mk ?_); conv => whnf) | ((with_reducible refine And.intro (fun _ => ?_) (fun _ => ?_)) <;> conv => whnf) | ((with_reducible show AYld _ _ _ _ _); (refine AYld.of tok mixed ?_); conv => whnf) | ((with_reducible show forceH _ _); (refine (forceH_eq _ _).mpr ?_); conv => whnf) | ((with_reducible show ACall _ _ _ _ _); (refine ACall.of_pure (by assumption) (by rfl) ?_); conv => whnf) | ((with_reducible show Exists _); (refine ⟨_, ACall.of_pure (by assumption) (by rfl) ⟨rfl, rfl⟩, ?_⟩); conv => whnf) | ((with_reducible show ∃ L, drawR L _ = true ∧ _); (refine ⟨[], by kernel_rfl, ?_⟩); conv => whnf) | ((with_reducible show _ ∧ _ ∧ _); (refine ⟨by omega, by omega, ?_⟩); conv => whnf) | fail)
  refine aloopH (fun seen : List Nat => seen.Nodup ∧ ∀ b ∈ seen, b < l.length) (fun _ => [(0, .own 3), (5, .own 4)])
    (fun seen H => (H.set 2 (.box 60 [.own 5])).set 4 (.iter (some 0) l.length seen l.length) ++ [.row 34 12 (pcl (prS l seen))]) (fun seen => l.length - seen.length) [] ⟨List.nodup_nil, fun b hb => by cases hb⟩
    (by exact weak_nilrow _ _ (by decide) ⟨.inl rfl, .inl rfl, trivial⟩ ⟨.inl rfl, .inl rfl, .inr ⟨rfl, .inr ⟨rfl, rfl⟩, trivial⟩, .inl rfl, .inl rfl, trivial⟩) ?_
  rintro seen ⟨hn2, hb⟩
  (conv => whnf); (repeat' first | ((with_reducible refine Box.mk ?_); conv => whnf) | ((with_reducible refine And.intro (fun _ => ?_) (fun _ => ?_)) <;> conv => whnf) | ((with_reducible show AYld _ _ _ _ _); (refine AYld.of tok mixed ?_); conv => whnf) | ((with_reducible show forceH _ _); (refine (forceH_eq _ _).mpr ?_); conv => whnf) | ((with_reducible show ACall _ _ _ _ _); (refine ACall.of_pure (by assumption) (by rfl) ?_); conv => whnf) | ((with_reducible show Exists _); (refine ⟨_, ACall.of_pure (by assumption) (by rfl) ⟨rfl, rfl⟩, ?_⟩); conv => whnf) | ((with_reducible show ∃ L, drawR L _ = true ∧ _); (refine ⟨[], by kernel_rfl, ?_⟩); conv => whnf) | ((with_reducible show _ ∧ _ ∧ _); (refine ⟨by omega, by omega, ?_⟩); conv => whnf) | fail)
  refine ⟨Nat.le_refl _, mes_lt, fun e he hns => ?_, fun hall => ?_⟩
  · obtain ⟨j, hj⟩ := List.getElem?_of_mem he
    obtain ⟨x, hx, rfl⟩ := mes_at hj
    have hjl : j < l.length := (List.getElem?_eq_some_iff.1 hx).1
    obtain ⟨m1, m2, m3⟩ := seen_more hn2 hb hjl hns
    have hps : prS l (seen ++ [j]) = prS l seen ++ [x.1] := by
      unfold prS; rw [List.map_append]; simp [keyAt, hx]
    have hpl : (pcl (prS l seen)).length = seen.length := by rw [pcl_len]; simp [prS]
    (conv => whnf); (repeat' first | ((with_reducible refine Box.mk ?_); conv => whnf) | ((with_reducible refine And.intro (fun _ => ?_) (fun _ => ?_)) <;> conv => whnf) | ((with_reducible show AYld _ _ _ _ _); (refine AYld.of tok mixed ?_); conv => whnf) | ((with_reducible show forceH _ _); (refine (forceH_eq _ _).mpr ?_); conv => whnf) | ((with_reducible show ACall _ _ _ _ _); (refine ACall.of_pure (by assumption) (by rfl) ?_); conv => whnf) | ((with_reducible show Exists _); (refine ⟨_, ACall.of_pure (by assumption) (by rfl) ⟨rfl, rfl⟩, ?_⟩); conv => whnf) | ((with_reducible show ∃ L, drawR L _ = true ∧ _); (refine ⟨[], by kernel_rfl, ?_⟩); conv => whnf) | ((with_reducible show _ ∧ _ ∧ _); (refine ⟨by omega, by omega, ?_⟩); conv => whnf) | fail)
    refine ⟨rfl, _, he, by simp, ?_⟩
    (conv => whnf); (repeat' first | ((with_reducible refine Box.mk ?_); conv => whnf) | ((with_reducible refine And.intro (fun _ => ?_) (fun _ => ?_)) <;> conv => whnf) | ((with_reducible show AYld _ _ _ _ _); (refine AYld.of tok mixed ?_); conv => whnf) | ((with_reducible show forceH _ _); (refine (forceH_eq _ _).mpr ?_); conv => whnf) | ((with_reducible show ACall _ _ _ _ _); (refine ACall.of_pure (by assumption) (by rfl) ?_); conv => whnf) | ((with_reducible show Exists _); (refine ⟨_, ACall.of_pure (by assumption) (by rfl) ⟨rfl, rfl⟩, ?_⟩); conv => whnf) | ((with_reducible show ∃ L, drawR L _ = true ∧ _); (refine ⟨[], by kernel_rfl, ?_⟩); conv => whnf) | ((with_reducible show _ ∧ _ ∧ _); (refine ⟨by omega, by omega, ?_⟩); conv => whnf) | fail)
    refine ⟨fun c hc => by rw [List.mem_singleton.1 hc]; exact ⟨rfl, rfl⟩, by rw [hpl]; show (_ + 1) * 112 ≤ _; omega, by rw [hpl]; show _ + 1 ≤ _; omega, ?_⟩
    (conv => whnf); (repeat' first | ((with_reducible refine Box.mk ?_); conv => whnf) | ((with_reducible refine And.intro (fun _ => ?_) (fun _ => ?_)) <;> conv => whnf) | ((with_reducible show AYld _ _ _ _ _); (refine AYld.of tok mixed ?_); conv => whnf) | ((with_reducible show forceH _ _); (refine (forceH_eq _ _).mpr ?_); conv => whnf) | ((with_reducible show ACall _ _ _ _ _); (refine ACall.of_pure (by assumption) (by rfl) ?_); conv => whnf) | ((with_reducible show Exists _); (refine ⟨_, ACall.of_pure (by assumption) (by rfl) ⟨rfl, rfl⟩, ?_⟩); conv => whnf) | ((with_reducible show ∃ L, drawR L _ = true ∧ _); (refine ⟨[], by kernel_rfl, ?_⟩); conv => whnf) | ((with_reducible show _ ∧ _ ∧ _); (refine ⟨by omega, by omega, ?_⟩); conv => whnf) | fail)
    refine ⟨seen ++ [j], ⟨m1, m2⟩, by simp; omega, weak_ren_to [(0, true), (1, true), (2, true), (3, true), (4, true), (9, true)] rfl rfl ?_ ⟨rfl, rfl, trivial⟩⟩
    rw [hps, ← pcl_snoc]
    rfl
  · have hp2 := seen_perm hn2 hb fun b hbl => by
      have := hall _ (List.mem_of_getElem? (i := b) (by rw [mes_get, List.getElem?_eq_getElem hbl, Option.map_some]))
      rwa [Nat.zero_add] at this
    (conv => whnf); (repeat' first | ((with_reducible refine Box.mk ?_); conv => whnf) | ((with_reducible refine And.intro (fun _ => ?_) (fun _ => ?_)) <;> conv => whnf) | ((with_reducible show AYld _ _ _ _ _); (refine AYld.of tok mixed ?_); conv => whnf) | ((with_reducible show forceH _ _); (refine (forceH_eq _ _).mpr ?_); conv => whnf) | ((with_reducible show ACall _ _ _ _ _); (refine ACall.of_pure (by assumption) (by rfl) ?_); conv => whnf) | ((with_reducible show Exists _); (refine ⟨_, ACall.of_pure (by assumption) (by rfl) ⟨rfl, rfl⟩, ?_⟩); conv => whnf) | ((with_reducible show ∃ L, drawR L _ = true ∧ _); (refine ⟨[], by kernel_rfl, ?_⟩); conv => whnf) | ((with_reducible show _ ∧ _ ∧ _); (refine ⟨by omega, by omega, ?_⟩); conv => whnf) | fail)
    exact ⟨.own 2, _, weak_ren_to [(0, true), (1, true), (5, true)] rfl rfl rfl ⟨rfl, trivial⟩, prS l seen, prS_all hp2, rfl, rfl⟩
/-- The keys of a map, in order. -/
theorem sortedF_ok {c : Px → Px → Int} {g : FuncId} (hc : ∀ x y, @PCall told P g [pxv x, pxv y] (.int .i64 (c x y))) (hT : TO c) (h0 : ∀ x y, c x y = 0 → x = y) {v : Nat → AV} {tm k1 : Nat} {l : Ml} (hn : (keysM l).Nodup) (hl : l.length ≤ 34359738368)
    (hseq : ACall P 113 [.nils, .fn k1 [.ptr 1 0]] (KH v tm l) fun r H' => ∃ k : List Px, k.Perm (keysM l) ∧ r = .own 2 ∧ H' = KH v tm l ++ [.row 34 12 (pcl k)]) :
    DCall P 51 [.fn k1 [.ptr 1 0], .fn g []] (KH v tm l) (.sl (pcl (srt c (keysM l)))) (KH v tm l) := by
  have hcol : ACall P 81 [.fn k1 [.ptr 1 0]] (KH v tm l) fun r H' => ∃ k : List Px, k.Perm (keysM l) ∧ r = .own 2 ∧ H' = KH v tm l ++ [.row 34 12 (pcl k)] := by
    refine ACall.of_awp tok mixed fn81 (Nat.le_of_ble_eq_true rfl) ?_
    (conv => whnf); (repeat' first | ((with_reducible refine Box.mk ?_); conv => whnf) | ((with_reducible refine And.intro (fun _ => ?_) (fun _ => ?_)) <;> conv => whnf) | ((with_reducible show AYld _ _ _ _ _); (refine AYld.of tok mixed ?_); conv => whnf) | ((with_reducible show forceH _ _); (refine (forceH_eq _ _).mpr ?_); conv => whnf) | ((with_reducible show ACall _ _ _ _ _); (refine ACall.of_pure (by assumption) (by rfl) ?_); conv => whnf) | ((with_reducible show Exists _); (refine ⟨_, ACall.of_pure (by assumption) (by rfl) ⟨rfl, rfl⟩, ?_⟩); conv => whnf) | ((with_reducible show ∃ L, drawR L _ = true ∧ _); (refine ⟨[], by kernel_rfl, ?_⟩); conv => whnf) | ((with_reducible show _ ∧ _ ∧ _); (refine ⟨by omega, by omega, ?_⟩); conv => whnf) | fail)
    refine hseq.mono ?_
    rintro r H' ⟨k, hk, rfl, rfl⟩
    (conv => whnf); (repeat' first | ((with_reducible refine Box.mk ?_); conv => whnf) | ((with_reducible refine And.intro (fun _ => ?_) (fun _ => ?_)) <;> conv => whnf) | ((with_reducible show AYld _ _ _ _ _); (refine AYld.of tok mixed ?_); conv => whnf) | ((with_reducible show forceH _ _); (refine (forceH_eq _ _).mpr ?_); conv => whnf) | ((with_reducible show ACall _ _ _ _ _); (refine ACall.of_pure (by assumption) (by rfl) ?_); conv => whnf) | ((with_reducible show Exists _); (refine ⟨_, ACall.of_pure (by assumption) (by rfl) ⟨rfl, rfl⟩, ?_⟩); conv => whnf) | ((with_reducible show ∃ L, drawR L _ = true ∧ _); (refine ⟨[], by kernel_rfl, ?_⟩); conv => whnf) | ((with_reducible show _ ∧ _ ∧ _); (refine ⟨by omega, by omega, ?_⟩); conv => whnf) | fail)
    exact ⟨k, hk, rfl, rfl⟩
  refine DCall.of_awp tok mixed fn51 (Nat.le_of_ble_eq_true rfl) ?_
  (conv => whnf); (repeat' first | ((with_reducible refine Box.mk ?_); conv => whnf) | ((with_reducible refine And.intro (fun _ => ?_) (fun _ => ?_)) <;> conv => whnf) | ((with_reducible show AYld _ _ _ _ _); (refine AYld.of tok mixed ?_); conv => whnf) | ((with_reducible show forceH _ _); (refine (forceH_eq _ _).mpr ?_); conv => whnf) | ((with_reducible show ACall _ _ _ _ _); (refine ACall.of_pure (by assumption) (by rfl) ?_); conv => whnf) | ((with_reducible show Exists _); (refine ⟨_, ACall.of_pure (by assumption) (by rfl) ⟨rfl, rfl⟩, ?_⟩); conv => whnf) | ((with_reducible show ∃ L, drawR L _ = true ∧ _); (refine ⟨[], by kernel_rfl, ?_⟩); conv => whnf) | ((with_reducible show _ ∧ _ ∧ _); (refine ⟨by omega, by omega, ?_⟩); conv => whnf) | fail)
  refine hcol.mono ?_
  rintro r H' ⟨k, hk, rfl, rfl⟩
  have e := srt_of_perm hT h0 hn hk
  have hkl : k.length = l.length := by rw [hk.length_eq, keysM, List.length_map]
  rw [← e]
  (conv => whnf); (repeat' first | ((with_reducible refine Box.mk ?_); conv => whnf) | ((with_reducible refine And.intro (fun _ => ?_) (fun _ => ?_)) <;> conv => whnf) | ((with_reducible show AYld _ _ _ _ _); (refine AYld.of tok mixed ?_); conv => whnf) | ((with_reducible show forceH _ _); (refine (forceH_eq _ _).mpr ?_); conv => whnf) | ((with_reducible show ACall _ _ _ _ _); (refine ACall.of_pure (by assumption) (by rfl) ?_); conv => whnf) | ((with_reducible show Exists _); (refine ⟨_, ACall.of_pure (by assumption) (by rfl) ⟨rfl, rfl⟩, ?_⟩); conv => whnf) | ((with_reducible show ∃ L, drawR L _ = true ∧ _); (refine ⟨[], by kernel_rfl, ?_⟩); conv => whnf) | ((with_reducible show _ ∧ _ ∧ _); (refine ⟨by omega, by omega, ?_⟩); conv => whnf) | fail)
  refine aW [2] (sortF_ok hc hT h0 k (by omega)) rfl rfl rfl ?_
  (conv => whnf); (repeat' first | ((with_reducible refine Box.mk ?_); conv => whnf) | ((with_reducible refine And.intro (fun _ => ?_) (fun _ => ?_)) <;> conv => whnf) | ((with_reducible show AYld _ _ _ _ _); (refine AYld.of tok mixed ?_); conv => whnf) | ((with_reducible show forceH _ _); (refine (forceH_eq _ _).mpr ?_); conv => whnf) | ((with_reducible show ACall _ _ _ _ _); (refine ACall.of_pure (by assumption) (by rfl) ?_); conv => whnf) | ((with_reducible show Exists _); (refine ⟨_, ACall.of_pure (by assumption) (by rfl) ⟨rfl, rfl⟩, ?_⟩); conv => whnf) | ((with_reducible show ∃ L, drawR L _ = true ∧ _); (refine ⟨[], by kernel_rfl, ?_⟩); conv => whnf) | ((with_reducible show _ ∧ _ ∧ _); (refine ⟨by omega, by omega, ?_⟩); conv => whnf) | fail)
  exact weak_cr 2 [(0, true), (1, true)] rfl rfl rfl rfl rfl
end Go.Proofs.YtgaohmfmomeflaaGreatDoor
end

section
/- model: Loads. -/
namespace Go.Proofs.YtgaohmfmomeflaaGreatDoor
open Go.Ve

def lcs (x : Px × Nat) : List AV := [.int .i64 x.1.a0, .int .i64 x.1.a1, .int .i64 x.1.k0.kind, .int .i64 x.1.k0.len, .int .u64 ((x.1.k0.n / H64 : Nat) : Int), .int .u64 ((x.1.k0.n % H64 : Nat) : Int), .str x.1.k0.path,
  .int .i64 x.1.k1.kind, .int .i64 x.1.k1.len, .int .u64 ((x.1.k1.n / H64 : Nat) : Int), .int .u64 ((x.1.k1.n % H64 : Nat) : Int), .str x.1.k1.path, .int .u64 (x.2 : Int)]
def lcl (l : Ml) : List (List AV) := l.map lcs
theorem lcl_len (l : Ml) : (lcl l).length = l.length := by simp [lcl]
theorem lcl_get (l : Ml) (i : Nat) : (lcl l)[i]? = (l[i]?).map lcs := by simp [lcl]
theorem lcl_snoc (l : Ml) (x : Px × Nat) : lcl l ++ [lcs x] = lcl (l ++ [x]) := by simp [lcl]
/-- What has been told, so far. -/
def accM (l : Ml) (k : List Px) (i : Nat) : Ml := ((k.take i).filter fun p => decide (0 < look l p)).map fun p => (p, look l p)
theorem accM_len (l : Ml) (k : List Px) (i : Nat) : (accM l k i).length ≤ i := by
  unfold accM
  rw [List.length_map]
  exact Nat.le_trans (List.length_filter_le _ _) (by rw [List.length_take]; omega)
theorem accM_step {l : Ml} {k : List Px} {i : Nat} {p : Px} (h : k[i]? = some p) : accM l k (i + 1) = accM l k i ++ (if 0 < look l p then [(p, look l p)] else []) := by
  unfold accM
  rw [List.take_add_one, h, List.filter_append, List.map_append]
  congr 1
  by_cases hp : 0 < look l p
  · rw [if_pos hp]; simp [hp]
  · rw [if_neg hp]; simp; omega
theorem loads_ok (s : Sp) (l : Ml) (hI : MI s l) : DCall P 29 [.ptr 0 0] (MH s l) (.sl (lcl (loadsM l))) (MH s l) := by
  have q1 := made_ok s l
  have ht := hI.tot
  have hl := hI.len
  have q3 := sortedF_ok (c := cmpP) (g := 59) (fun x y => @pCmp_ok told x y) to_cmpP (fun _ _ h => cmpP_zero.1 h) hI.nodup (by omega) (seqU_ok l (by omega))
  have hfull : accM l (srt cmpP (keysM l)) (srt cmpP (keysM l)).length = loadsM l := by
    unfold accM; rw [List.take_length]; rfl
  have hkl : (srt cmpP (keysM l)).length = l.length := by rw [srt_len, keysM, List.length_map]
  have hmem : ∀ p ∈ srt cmpP (keysM l), p ∈ keysM l := fun p hp => srt_mem.1 hp
  rw [← hfull]
  generalize srt cmpP (keysM l) = k at *
  have hkc := pcl_len k
  refine DCall.of_awp tok mixed fn29 (Nat.le_of_ble_eq_true rfl) ?_
  (conv => whnf); (repeat' first | ((with_reducible refine Box.mk ?_); conv => whnf) | ((with_reducible refine And.intro (fun _ => ?_) (fun _ => ?_)) <;> conv => whnf) | ((with_reducible show AYld _ _ _ _ _); (refine AYld.of tok mixed ?_); conv => whnf) | ((with_reducible show forceH _ _); (refine (forceH_eq _ _).mpr ?_); conv => whnf) | ((with_reducible show ACall _ _ _ _ _); (refine ACall.of_pure (by assumption) (by rfl) ?_); conv => whnf) | ((with_reducible show Exists _); (refine ⟨_, ACall.of_pure (by assumption) (by rfl) ⟨rfl, rfl⟩, ?_⟩); conv => whnf) | ((with_reducible show ∃ L, drawR L _ = true ∧ _); (refine ⟨[], by kernel_rfl, ?_⟩); conv => whnf) | ((with_reducible show _ ∧ _ ∧ _); (refine ⟨by omega, by omega, ?_⟩); conv => whnf) | fail)
  refine aW [0, 1] q1 rfl rfl rfl ?_
  (conv => whnf); (repeat' first | ((with_reducible refine Box.mk ?_); conv => whnf) | ((with_reducible refine And.intro (fun _ => ?_) (fun _ => ?_)) <;> conv => whnf) | ((with_reducible show AYld _ _ _ _ _); (refine AYld.of tok mixed ?_); conv => whnf) | ((with_reducible show forceH _ _); (refine (forceH_eq _ _).mpr ?_); conv => whnf) | ((with_reducible show ACall _ _ _ _ _); (refine ACall.of_pure (by assumption) (by rfl) ?_); conv => whnf) | ((with_reducible show Exists _); (refine ⟨_, ACall.of_pure (by assumption) (by rfl) ⟨rfl, rfl⟩, ?_⟩); conv => whnf) | ((with_reducible show ∃ L, drawR L _ = true ∧ _); (refine ⟨[], by kernel_rfl, ?_⟩); conv => whnf) | ((with_reducible show _ ∧ _ ∧ _); (refine ⟨by omega, by omega, ?_⟩); conv => whnf) | fail)
  refine aW [1] (keysU_fn l) rfl rfl rfl ?_
  (conv => whnf); (repeat' first | ((with_reducible refine Box.mk ?_); conv => whnf) | ((with_reducible refine And.intro (fun _ => ?_) (fun _ => ?_)) <;> conv => whnf) | ((with_reducible show AYld _ _ _ _ _); (refine AYld.of tok mixed ?_); conv => whnf) | ((with_reducible show forceH _ _); (refine (forceH_eq _ _).mpr ?_); conv => whnf) | ((with_reducible show ACall _ _ _ _ _); (refine ACall.of_pure (by assumption) (by rfl) ?_); conv => whnf) | ((with_reducible show Exists _); (refine ⟨_, ACall.of_pure (by assumption) (by rfl) ⟨rfl, rfl⟩, ?_⟩); conv => whnf) | ((with_reducible show ∃ L, drawR L _ = true ∧ _); (refine ⟨[], by kernel_rfl, ?_⟩); conv => whnf) | ((with_reducible show _ ∧ _ ∧ _); (refine ⟨by omega, by omega, ?_⟩); conv => whnf) | fail)
  refine aW [1, 2] q3 rfl rfl rfl ?_
  (conv => whnf); (repeat' first | ((with_reducible refine Box.mk ?_); conv => whnf) | ((with_reducible refine And.intro (fun _ => ?_) (fun _ => ?_)) <;> conv => whnf) | ((with_reducible show AYld _ _ _ _ _); (refine AYld.of tok mixed ?_); conv => whnf) | ((with_reducible show forceH _ _); (refine (forceH_eq _ _).mpr ?_); conv => whnf) | ((with_reducible show ACall _ _ _ _ _); (refine ACall.of_pure (by assumption) (by rfl) ?_); conv => whnf) | ((with_reducible show Exists _); (refine ⟨_, ACall.of_pure (by assumption) (by rfl) ⟨rfl, rfl⟩, ?_⟩); conv => whnf) | ((with_reducible show ∃ L, drawR L _ = true ∧ _); (refine ⟨[], by kernel_rfl, ?_⟩); conv => whnf) | ((with_reducible show _ ∧ _ ∧ _); (refine ⟨by omega, by omega, ?_⟩); conv => whnf) | fail)
  refine aloop (fun i : Nat => i ≤ k.length) (fun i => ⟨envL [(0, .ptr 0 0), (3, .own 3), (15, .sl (pcl k)), (16, .int .i64 ((pcl k).length : Int)), (17, .int .i64 (i : Int))], (MH s l ++ [Ob.box 92 [.own 1]]) ++ [.row 46 13 (lcl (accM l k i))]⟩) (fun i => k.length - i) 0 (Nat.zero_le _) ?_ ?_
  · exact (weak_to (l := [(0, .ptr 0 0), (3, .nils), (15, .sl (pcl k)), (16, .int .i64 ((pcl k).length : Int)), (17, .int .i64 0)]) (H := MH s l ++ [Ob.box 92 [.own 1]]) ⟨rfl, rfl, rfl, rfl, rfl, trivial⟩ rfl).trans (weak_nilrow (s := ⟨envL [(0, .ptr 0 0), (3, .nils), (15, .sl (pcl k)), (16, .int .i64 ((pcl k).length : Int)), (17, .int .i64 0)], MH s l ++ [Ob.box 92 [.own 1]]⟩) (l := [(0, .ptr 0 0), (3, .own 3), (15, .sl (pcl k)), (16, .int .i64 ((pcl k).length : Int)), (17, .int .i64 0)]) (H' := MH s l ++ [Ob.box 92 [.own 1]]) 46 13 (by decide) ⟨.inl rfl, .inr ⟨rfl, rfl⟩, .inl rfl, .inl rfl, .inl rfl, trivial⟩ ⟨.inl rfl, .inl rfl, .inl rfl, trivial⟩)
  intro i hi
  have hal := accM_len l k i
  have hll := lcl_len (accM l k i)
  (conv => whnf); (repeat' first | ((with_reducible refine Box.mk ?_); conv => whnf) | ((with_reducible refine And.intro (fun _ => ?_) (fun _ => ?_)) <;> conv => whnf) | ((with_reducible show AYld _ _ _ _ _); (refine AYld.of tok mixed ?_); conv => whnf) | ((with_reducible show forceH _ _); (refine (forceH_eq _ _).mpr ?_); conv => whnf) | ((with_reducible show ACall _ _ _ _ _); (refine ACall.of_pure (by assumption) (by rfl) ?_); conv => whnf) | ((with_reducible show Exists _); (refine ⟨_, ACall.of_pure (by assumption) (by rfl) ⟨rfl, rfl⟩, ?_⟩); conv => whnf) | ((with_reducible show ∃ L, drawR L _ = true ∧ _); (refine ⟨[], by kernel_rfl, ?_⟩); conv => whnf) | ((with_reducible show _ ∧ _ ∧ _); (refine ⟨by omega, by omega, ?_⟩); conv => whnf) | fail)
  · rename_i hlt
    have hlt : i < k.length := by rw [hkc] at hlt; omega
    have hp := List.getElem?_eq_getElem hlt
    have hst := accM_step (l := l) hp
    have hpm := hmem _ (List.mem_of_getElem? hp)
    generalize k[i] = p at *
    obtain ⟨x, hx, hxp⟩ := List.mem_map.1 hpm
    obtain ⟨j, hj⟩ := List.getElem?_of_mem hx
    have hlx : look l p = x.2 := by rw [← hxp]; exact look_mem hI.nodup hx
    refine ⟨by omega, pcs p, by rw [Int.toNat_natCast, pcl_get, hp]; rfl, rfl, ?_⟩
    (conv => whnf); (repeat' first | ((with_reducible refine Box.mk ?_); conv => whnf) | ((with_reducible refine And.intro (fun _ => ?_) (fun _ => ?_)) <;> conv => whnf) | ((with_reducible show AYld _ _ _ _ _); (refine AYld.of tok mixed ?_); conv => whnf) | ((with_reducible show forceH _ _); (refine (forceH_eq _ _).mpr ?_); conv => whnf) | ((with_reducible show ACall _ _ _ _ _); (refine ACall.of_pure (by assumption) (by rfl) ?_); conv => whnf) | ((with_reducible show Exists _); (refine ⟨_, ACall.of_pure (by assumption) (by rfl) ⟨rfl, rfl⟩, ?_⟩); conv => whnf) | ((with_reducible show ∃ L, drawR L _ = true ∧ _); (refine ⟨[], by kernel_rfl, ?_⟩); conv => whnf) | ((with_reducible show _ ∧ _ ∧ _); (refine ⟨by omega, by omega, ?_⟩); conv => whnf) | fail)
    refine ⟨mes_ok hI.nodup, at_yes rfl hI.nodup hj (by rw [hxp]; rfl) ?_⟩
    (conv => whnf); (repeat' first | ((with_reducible refine Box.mk ?_); conv => whnf) | ((with_reducible refine And.intro (fun _ => ?_) (fun _ => ?_)) <;> conv => whnf) | ((with_reducible show AYld _ _ _ _ _); (refine AYld.of tok mixed ?_); conv => whnf) | ((with_reducible show forceH _ _); (refine (forceH_eq _ _).mpr ?_); conv => whnf) | ((with_reducible show ACall _ _ _ _ _); (refine ACall.of_pure (by assumption) (by rfl) ?_); conv => whnf) | ((with_reducible show Exists _); (refine ⟨_, ACall.of_pure (by assumption) (by rfl) ⟨rfl, rfl⟩, ?_⟩); conv => whnf) | ((with_reducible show ∃ L, drawR L _ = true ∧ _); (refine ⟨[], by kernel_rfl, ?_⟩); conv => whnf) | ((with_reducible show _ ∧ _ ∧ _); (refine ⟨by omega, by omega, ?_⟩); conv => whnf) | fail)
    · rename_i hpos
      have hpos : 0 < look l p := by rw [hlx]; have : (0 : Int) < (x.2 : Int) := hpos; omega
      rw [if_pos hpos] at hst
      refine ⟨fun c hc => by rw [List.mem_singleton.1 hc]; exact ⟨rfl, rfl⟩, by rw [hll]; show (_ + 1) * 120 ≤ _; omega, by rw [hll]; show _ + 1 ≤ _; omega, ?_⟩
      (conv => whnf); (repeat' first | ((with_reducible refine Box.mk ?_); conv => whnf) | ((with_reducible refine And.intro (fun _ => ?_) (fun _ => ?_)) <;> conv => whnf) | ((with_reducible show AYld _ _ _ _ _); (refine AYld.of tok mixed ?_); conv => whnf) | ((with_reducible show forceH _ _); (refine (forceH_eq _ _).mpr ?_); conv => whnf) | ((with_reducible show ACall _ _ _ _ _); (refine ACall.of_pure (by assumption) (by rfl) ?_); conv => whnf) | ((with_reducible show Exists _); (refine ⟨_, ACall.of_pure (by assumption) (by rfl) ⟨rfl, rfl⟩, ?_⟩); conv => whnf) | ((with_reducible show ∃ L, drawR L _ = true ∧ _); (refine ⟨[], by kernel_rfl, ?_⟩); conv => whnf) | ((with_reducible show _ ∧ _ ∧ _); (refine ⟨by omega, by omega, ?_⟩); conv => whnf) | fail)
      refine ⟨i + 1, hlt, by omega, weak_ren_to [(0, true), (1, true), (2, true), (6, true)] rfl rfl ?_ ⟨rfl, rfl, rfl, rfl, wrap_nat (m := 1) (by omega), trivial⟩⟩
      rw [hst, ← lcl_snoc, hlx]
      rfl
    · rename_i hpos
      have hpos : ¬ 0 < look l p := by rw [hlx]; have : ¬ (0 : Int) < (x.2 : Int) := hpos; omega
      rw [if_neg hpos, List.append_nil] at hst
      refine ⟨i + 1, hlt, by omega, weak_ren_to [(0, true), (1, true), (2, true), (3, true)] rfl rfl ?_ ⟨rfl, rfl, rfl, rfl, wrap_nat (m := 1) (by omega), trivial⟩⟩
      rw [hst]
      rfl
  · rename_i hlt
    have : i = k.length := by rw [hkc] at hlt; omega
    subst this
    exact weak_cr 3 [(0, true), (1, true)] rfl rfl rfl rfl rfl
end Go.Proofs.YtgaohmfmomeflaaGreatDoor
end

section
/- prefix: arguments read as data. -/
namespace Go.Proofs.YtgaohmfmomeflaaGreatDoor
open Go.Ve

theorem dim_wf {B : Nat} {xs : List AV} (h : Wf ty B 23 xs) : ∃ d : Dm, xs = [.int .i64 d.kind, .int .i64 d.side, .int .i64 d.step] := by
  have h0 := h.struct_inv rfl
  obtain ⟨x1, r1, rfl, hk, h1⟩ := h0.cons_inv
  obtain ⟨x2, r2, rfl, hl, h2⟩ := h1.cons_inv
  obtain ⟨x3, r3, rfl, ha, h3⟩ := h2.cons_inv
  obtain rfl := h3.nil_inv
  obtain ⟨a, rfl, _⟩ := hk.int_inv rfl
  obtain ⟨b, rfl, _⟩ := hl.int_inv rfl
  obtain ⟨c, rfl, _⟩ := ha.int_inv rfl
  exact ⟨⟨a, b, c⟩, rfl⟩
theorem space_inv {B : Nat} {x : AV} (h : WfV ty B 26 x) : ∃ s : Sp, x = spv s := by
  obtain ⟨xs, rfl, h0⟩ := h.struct_inv rfl
  obtain ⟨x1, r1, rfl, hk, h1⟩ := h0.cons_inv
  obtain ⟨x2, r2, rfl, hl, h2⟩ := h1.cons_inv
  obtain rfl := h2.nil_inv
  obtain ⟨n, rfl, _⟩ := hk.int_inv rfl
  have h3 := hl.arr_inv (n := 2) rfl
  obtain ⟨y1, q1, rfl, g1, h4⟩ := h3.cons_inv
  obtain ⟨y2, q2, rfl, g2, h5⟩ := h4.cons_inv
  obtain rfl := h5.nil_inv
  obtain ⟨d0, rfl⟩ := dim_wf g1
  obtain ⟨d1, rfl⟩ := dim_wf g2
  exact ⟨⟨n, d0, d1⟩, rfl⟩
theorem prefix_inv {x : AV} (h : WfV ty 1048576 34 x) : ∃ p : Px, x = pxv p ∧ POk p := by
  obtain ⟨xs, rfl, h0⟩ := h.struct_inv rfl
  obtain ⟨x1, r1, rfl, hk, h1⟩ := h0.cons_inv
  obtain ⟨x2, r2, rfl, hl, h2⟩ := h1.cons_inv
  obtain rfl := h2.nil_inv
  have h3 := hk.arr_inv (n := 2) rfl
  obtain ⟨y1, q1, rfl, g1, h4⟩ := h3.cons_inv
  obtain ⟨y2, q2, rfl, g2, h5⟩ := h4.cons_inv
  obtain rfl := h5.nil_inv
  obtain ⟨a0, rfl, _⟩ := g1.int_inv rfl
  obtain ⟨a1, rfl, _⟩ := g2.int_inv rfl
  have h6 := hl.arr_inv (n := 2) rfl
  obtain ⟨z1, s1, rfl, k1, h7⟩ := h6.cons_inv
  obtain ⟨z2, s2, rfl, k2, h8⟩ := h7.cons_inv
  obtain rfl := h8.nil_inv
  obtain ⟨k0, rfl, m0⟩ := key_wf k1
  obtain ⟨k1, rfl, m1⟩ := key_wf k2
  exact ⟨⟨a0, a1, k0, k1⟩, rfl, m0.n, m1.n, m0.path, m1.path⟩
end Go.Proofs.YtgaohmfmomeflaaGreatDoor
end

section
/- model: arguments read as data. -/
namespace Go.Proofs.YtgaohmfmomeflaaGreatDoor
open Go.Ve

theorem prefix_wf {xs : List AV} (h : Wf ty 1048576 34 xs) : ∃ p : Px, xs = pcs p ∧ POk p := by
  have h0 := h.struct_inv rfl
  obtain ⟨x1, r1, rfl, hk, h1⟩ := h0.cons_inv
  obtain ⟨x2, r2, rfl, hl, h2⟩ := h1.cons_inv
  obtain rfl := h2.nil_inv
  have h3 := hk.arr_inv (n := 2) rfl
  obtain ⟨y1, q1, rfl, g1, h4⟩ := h3.cons_inv
  obtain ⟨y2, q2, rfl, g2, h5⟩ := h4.cons_inv
  obtain rfl := h5.nil_inv
  obtain ⟨a0, rfl, _⟩ := g1.int_inv rfl
  obtain ⟨a1, rfl, _⟩ := g2.int_inv rfl
  have h6 := hl.arr_inv (n := 2) rfl
  obtain ⟨z1, s1, rfl, k1, h7⟩ := h6.cons_inv
  obtain ⟨z2, s2, rfl, k2, h8⟩ := h7.cons_inv
  obtain rfl := h8.nil_inv
  obtain ⟨k0, rfl, m0⟩ := key_wf k1
  obtain ⟨k1, rfl, m1⟩ := key_wf k2
  exact ⟨⟨a0, a1, k0, k1⟩, rfl, m0.n, m1.n, m0.path, m1.path⟩
theorem load_wf {xs : List AV} (h : Wf ty 1048576 46 xs) : ∃ x : Px × Nat, xs = lcs x ∧ POk x.1 := by
  have h0 := h.struct_inv rfl
  obtain ⟨x1, r1, rfl, g1, h1⟩ := h0.cons_inv
  obtain ⟨x2, r2, rfl, g2, h2⟩ := h1.cons_inv
  obtain rfl := h2.nil_inv
  obtain ⟨p, rfl, hp⟩ := prefix_wf g1
  obtain ⟨n, rfl, hn⟩ := g2.int_inv rfl
  obtain ⟨m, rfl, _⟩ := u64_lit hn
  exact ⟨(p, m), rfl, hp⟩
theorem loads_inv : ∀ (es : List (List AV)), (∀ c ∈ es, Wf ty 1048576 46 c) → ∃ l : Ml, es = lcl l ∧ ∀ x ∈ l, POk x.1
  | [], _ => ⟨[], rfl, fun p hp => by cases hp⟩
  | c :: r, h => by
    obtain ⟨l, rfl, hl⟩ := loads_inv r fun c hc => h c (List.mem_cons_of_mem _ hc)
    obtain ⟨p, rfl, hp⟩ := load_wf (h c List.mem_cons_self)
    exact ⟨p :: l, rfl, fun q hq => by
      rcases List.mem_cons.1 hq with rfl | hq
      · exact hp
      · exact hl q hq⟩
theorem lds_inv {x : AV} (h : WfV ty 1048576 40 x) : ∃ l : Ml, mpA nlN x = .sl (lcl l) ∧ (∀ x ∈ l, POk x.1) ∧ l.length ≤ 1048576 := by
  rcases h.slice_inv rfl with rfl | ⟨es, rfl, hl, he⟩
  · exact ⟨[], rfl, fun p hp => (by cases hp), Nat.zero_le _⟩
  · obtain ⟨l, rfl, ho⟩ := loads_inv es he
    exact ⟨l, rfl, ho, by rw [lcl_len] at hl; exact hl⟩
end Go.Proofs.YtgaohmfmomeflaaGreatDoor
end

section
/- model: Over. -/
namespace Go.Proofs.YtgaohmfmomeflaaGreatDoor
open Go.Ve

theorem pNilSl {f : FuncId} {args : List AV} (h : PCall P f args .nils) : PCall P f args (.sl []) := by
  unfold PCall at *
  refine ⟨h.1, fun M0 w vs h1 h2 hv => Calls.mono (h.2 M0 w vs h1 h2 hv) ?_⟩
  rintro e w' ⟨v, rfl, hb, hr⟩
  exact ⟨v, rfl, hb, by rw [hr.nils_inv]; exact .sl0 _⟩
theorem gAll_sl (s : Sp) (p : Px) (hp : POk p) : PCall P 50 [spv s, pxv p] (.sl (pcl (allP s p))) := by
  have h := gAll_ok s p hp
  cases he : allP s p with
  | nil => rw [he] at h; exact pNilSl h
  | cons x r => rw [he] at h; rwa [pvl_sl (by simp)] at h
def ones (l : List Px) : Ml := l.map fun p => (p, 1)
theorem cntL_snoc (l : List Px) (p : Px) : cntL (l ++ [p]) = addM (cntL l) p 1 := by
  unfold cntL; rw [List.map_append]; exact putF_snoc _ _ _
theorem tot_cntL (l : List Px) : totM (cntL l) = l.length := by
  unfold cntL
  rw [totM, sumF_putAll]
  induction l with
  | nil => rfl
  | cons x l ih => rw [List.map_cons, sumF_cons, ih, cond_true, List.length_cons]; omega
theorem len_cntL (l : List Px) : (cntL l).length ≤ l.length := by
  have := putF_len (l.map fun p => (p, 1)) []
  rw [List.length_map] at this
  unfold cntL
  simpa using this
theorem addM_two {p : Px} {w : Nat} : ∀ {r : Ml}, p ∉ keysM r → addM (r ++ [(p, 0)]) p w = r ++ [(p, w)]
  | [], _ => by show (if p = p then _ else _) = _; rw [if_pos rfl, Nat.zero_add]; rfl
  | y :: r, hr => by
    have hr : p ∉ y.1 :: keysM r := hr
    rw [List.mem_cons, not_or] at hr
    rw [List.cons_append, addM, if_neg (fun e => hr.1 e.symm), addM_two hr.2]; rfl
theorem upsM_snoc (s : Sp) (l : Ml) (x : Px × Nat) : upsM s (l ++ [x]) = upsM s l ++ allP s x.1 := by simp [upsM]
theorem mOver_ok (s : Sp) (l : Ml) (hI : MI s l) : DCall P 22 [.ptr 0 0] (MH s l) (.sl (pcl (ovM s l))) (MH s l) := by
  have q1 := made_ok s l
  have q2 := loads_ok s l hI
  have hlen : (loadsM l).length ≤ 65536 := Nat.le_trans loadsM_len hI.len
  have hok := hI.ok.loads
  have huL := upsM_len s (loadsM l)
  unfold ovM
  generalize loadsM l = L at *
  have hLc := lcl_len L
  have q3 := sortedF_ok (c := hgtP) (g := 53) (fun x y => @byHeight_ok told x y) to_hgtP (fun _ _ h => hgtP_zero h) (l := cntL (upsM s L)) (nodup_putAll _) (by have := len_cntL (upsM s L); omega) (seqI_ok (cntL (upsM s L)) (by have := len_cntL (upsM s L); omega))
  refine DCall.of_awp tok mixed fn22 (Nat.le_of_ble_eq_true rfl) ?_
  (conv => whnf); (repeat' first | ((with_reducible refine Box.mk ?_); conv => whnf) | ((with_reducible refine And.intro (fun _ => ?_) (fun _ => ?_)) <;> conv => whnf) | ((with_reducible show AYld _ _ _ _ _); (refine AYld.of tok mixed ?_); conv => whnf) | ((with_reducible show forceH _ _); (refine (forceH_eq _ _).mpr ?_); conv => whnf) | ((with_reducible show ACall _ _ _ _ _); (refine ACall.of_pure (by assumption) (by rfl) ?_); conv => whnf) | ((with_reducible show Exists _); (refine ⟨_, ACall.of_pure (by assumption) (by rfl) ⟨rfl, rfl⟩, ?_⟩); conv => whnf) | ((with_reducible show ∃ L, drawR L _ = true ∧ _); (refine ⟨[], by kernel_rfl, ?_⟩); conv => whnf) | ((with_reducible show _ ∧ _ ∧ _); (refine ⟨by omega, by omega, ?_⟩); conv => whnf) | fail)
  refine aW [0, 1] q1 rfl rfl rfl ?_
  (conv => whnf); (repeat' first | ((with_reducible refine Box.mk ?_); conv => whnf) | ((with_reducible refine And.intro (fun _ => ?_) (fun _ => ?_)) <;> conv => whnf) | ((with_reducible show AYld _ _ _ _ _); (refine AYld.of tok mixed ?_); conv => whnf) | ((with_reducible show forceH _ _); (refine (forceH_eq _ _).mpr ?_); conv => whnf) | ((with_reducible show ACall _ _ _ _ _); (refine ACall.of_pure (by assumption) (by rfl) ?_); conv => whnf) | ((with_reducible show Exists _); (refine ⟨_, ACall.of_pure (by assumption) (by rfl) ⟨rfl, rfl⟩, ?_⟩); conv => whnf) | ((with_reducible show ∃ L, drawR L _ = true ∧ _); (refine ⟨[], by kernel_rfl, ?_⟩); conv => whnf) | ((with_reducible show _ ∧ _ ∧ _); (refine ⟨by omega, by omega, ?_⟩); conv => whnf) | fail)
  refine aW [0, 1] q2 rfl rfl rfl ?_
  (conv => whnf); (repeat' first | ((with_reducible refine Box.mk ?_); conv => whnf) | ((with_reducible refine And.intro (fun _ => ?_) (fun _ => ?_)) <;> conv => whnf) | ((with_reducible show AYld _ _ _ _ _); (refine AYld.of tok mixed ?_); conv => whnf) | ((with_reducible show forceH _ _); (refine (forceH_eq _ _).mpr ?_); conv => whnf) | ((with_reducible show ACall _ _ _ _ _); (refine ACall.of_pure (by assumption) (by rfl) ?_); conv => whnf) | ((with_reducible show Exists _); (refine ⟨_, ACall.of_pure (by assumption) (by rfl) ⟨rfl, rfl⟩, ?_⟩); conv => whnf) | ((with_reducible show ∃ L, drawR L _ = true ∧ _); (refine ⟨[], by kernel_rfl, ?_⟩); conv => whnf) | ((with_reducible show _ ∧ _ ∧ _); (refine ⟨by omega, by omega, ?_⟩); conv => whnf) | fail)
  refine aloop (fun i : Nat => i ≤ L.length) (fun i => ⟨envL [(0, .ptr 0 0), (3, .own 2), (13, .sl (lcl L)), (14, .int .i64 ((lcl L).length : Int)), (15, .int .i64 (i : Int))], MH s l ++ [Ob.map pks (mes i64V 0 (cntL (upsM s (L.take i)))) (cntL (upsM s (L.take i))).length]⟩) (fun i => L.length - i) 0 (Nat.zero_le _)
    (weak_to ⟨rfl, rfl, rfl, rfl, rfl, trivial⟩ rfl) ?_
  intro i hi
  (conv => whnf); (repeat' first | ((with_reducible refine Box.mk ?_); conv => whnf) | ((with_reducible refine And.intro (fun _ => ?_) (fun _ => ?_)) <;> conv => whnf) | ((with_reducible show AYld _ _ _ _ _); (refine AYld.of tok mixed ?_); conv => whnf) | ((with_reducible show forceH _ _); (refine (forceH_eq _ _).mpr ?_); conv => whnf) | ((with_reducible show ACall _ _ _ _ _); (refine ACall.of_pure (by assumption) (by rfl) ?_); conv => whnf) | ((with_reducible show Exists _); (refine ⟨_, ACall.of_pure (by assumption) (by rfl) ⟨rfl, rfl⟩, ?_⟩); conv => whnf) | ((with_reducible show ∃ L, drawR L _ = true ∧ _); (refine ⟨[], by kernel_rfl, ?_⟩); conv => whnf) | ((with_reducible show _ ∧ _ ∧ _); (refine ⟨by omega, by omega, ?_⟩); conv => whnf) | fail)
  · rename_i hlt
    have hlt : i < L.length := by rw [hLc] at hlt; omega
    have hx := List.getElem?_eq_getElem hlt
    have hst : upsM s (L.take (i + 1)) = upsM s (L.take i) ++ allP s L[i].1 := by
      rw [List.take_add_one, hx]; exact upsM_snoc _ _ _
    have hxo : POk L[i].1 := hok.at (List.mem_of_getElem? hx)
    have hul : (upsM s (L.take (i + 1))).length ≤ 65536 * 33153 := by
      refine Nat.le_trans (upsM_len s _) (Nat.mul_le_mul_right _ ?_)
      rw [List.length_take]; omega
    generalize L[i] = x at *
    have q4 := gAll_sl s x.1 hxo
    have hql := allP_len s x.1
    generalize allP s x.1 = q at *
    have hqc := pcl_len q
    refine ⟨by omega, lcs x, by rw [Int.toNat_natCast, lcl_get, hx]; rfl, rfl, ?_⟩
    (conv => whnf); (repeat' first | ((with_reducible refine Box.mk ?_); conv => whnf) | ((with_reducible refine And.intro (fun _ => ?_) (fun _ => ?_)) <;> conv => whnf) | ((with_reducible show AYld _ _ _ _ _); (refine AYld.of tok mixed ?_); conv => whnf) | ((with_reducible show forceH _ _); (refine (forceH_eq _ _).mpr ?_); conv => whnf) | ((with_reducible show ACall _ _ _ _ _); (refine ACall.of_pure (by assumption) (by rfl) ?_); conv => whnf) | ((with_reducible show Exists _); (refine ⟨_, ACall.of_pure (by assumption) (by rfl) ⟨rfl, rfl⟩, ?_⟩); conv => whnf) | ((with_reducible show ∃ L, drawR L _ = true ∧ _); (refine ⟨[], by kernel_rfl, ?_⟩); conv => whnf) | ((with_reducible show _ ∧ _ ∧ _); (refine ⟨by omega, by omega, ?_⟩); conv => whnf) | fail)
    refine aloop (fun j : Nat => j ≤ q.length) (fun j => ⟨envL [(0, .ptr 0 0), (3, .own 2), (13, .sl (lcl L)), (14, .int .i64 ((lcl L).length : Int)), (15, .int .i64 (i : Int)), (25, .sl (pcl q)), (26, .int .i64 ((pcl q).length : Int)), (27, .int .i64 (j : Int))], MH s l ++ [Ob.map pks (mes i64V 0 (cntL (upsM s (L.take i) ++ q.take j))) (cntL (upsM s (L.take i) ++ q.take j)).length]⟩) (fun j => q.length - j) 0 (Nat.zero_le _)
      (weak_ren_to [(0, true), (1, true), (2, true)] rfl rfl (by rw [List.take_zero, List.append_nil]; rfl) ⟨rfl, rfl, rfl, rfl, rfl, rfl, rfl, rfl, trivial⟩) ?_
    intro j hj
    (conv => whnf); (repeat' first | ((with_reducible refine Box.mk ?_); conv => whnf) | ((with_reducible refine And.intro (fun _ => ?_) (fun _ => ?_)) <;> conv => whnf) | ((with_reducible show AYld _ _ _ _ _); (refine AYld.of tok mixed ?_); conv => whnf) | ((with_reducible show forceH _ _); (refine (forceH_eq _ _).mpr ?_); conv => whnf) | ((with_reducible show ACall _ _ _ _ _); (refine ACall.of_pure (by assumption) (by rfl) ?_); conv => whnf) | ((with_reducible show Exists _); (refine ⟨_, ACall.of_pure (by assumption) (by rfl) ⟨rfl, rfl⟩, ?_⟩); conv => whnf) | ((with_reducible show _ ∧ _ ∧ _); (refine ⟨by omega, by omega, ?_⟩); conv => whnf) | fail)
    · rename_i hlt2
      have hlt2 : j < q.length := by rw [hqc] at hlt2; omega
      have hy := List.getElem?_eq_getElem hlt2
      have hcs : cntL (upsM s (L.take i) ++ q.take (j + 1)) = addM (cntL (upsM s (L.take i) ++ q.take j)) q[j] 1 := by
        rw [List.take_add_one, hy, ← List.append_assoc]; exact cntL_snoc _ _
      have htot : totM (cntL (upsM s (L.take i) ++ q.take j)) ≤ 65536 * 33153 := by
        rw [tot_cntL, List.length_append, List.length_take]
        rw [hst, List.length_append] at hul
        omega
      have hn : (keysM (cntL (upsM s (L.take i) ++ q.take j))).Nodup := nodup_putAll _
      generalize cntL (upsM s (L.take i) ++ q.take j) = c at *
      generalize q[j] = p at *
      have hlk := look_le (l := c) p
      refine ⟨by omega, pcs p, by rw [Int.toNat_natCast, pcl_get, hy]; rfl, rfl, ?_⟩
      (conv => whnf); (repeat' first | ((with_reducible refine Box.mk ?_); conv => whnf) | ((with_reducible refine And.intro (fun _ => ?_) (fun _ => ?_)) <;> conv => whnf) | ((with_reducible show AYld _ _ _ _ _); (refine AYld.of tok mixed ?_); conv => whnf) | ((with_reducible show forceH _ _); (refine (forceH_eq _ _).mpr ?_); conv => whnf) | ((with_reducible show ACall _ _ _ _ _); (refine ACall.of_pure (by assumption) (by rfl) ?_); conv => whnf) | ((with_reducible show Exists _); (refine ⟨_, ACall.of_pure (by assumption) (by rfl) ⟨rfl, rfl⟩, ?_⟩); conv => whnf) | ((with_reducible show _ ∧ _ ∧ _); (refine ⟨by omega, by omega, ?_⟩); conv => whnf) | fail)
      refine ⟨[(4, [2])], by kernel_rfl, ?_⟩
      (conv => whnf); (repeat' first | ((with_reducible refine Box.mk ?_); conv => whnf) | ((with_reducible refine And.intro (fun _ => ?_) (fun _ => ?_)) <;> conv => whnf) | ((with_reducible show AYld _ _ _ _ _); (refine AYld.of tok mixed ?_); conv => whnf) | ((with_reducible show forceH _ _); (refine (forceH_eq _ _).mpr ?_); conv => whnf) | ((with_reducible show ACall _ _ _ _ _); (refine ACall.of_pure (by assumption) (by rfl) ?_); conv => whnf) | ((with_reducible show Exists _); (refine ⟨_, ACall.of_pure (by assumption) (by rfl) ⟨rfl, rfl⟩, ?_⟩); conv => whnf) | ((with_reducible show _ ∧ _ ∧ _); (refine ⟨by omega, by omega, ?_⟩); conv => whnf) | fail)
      by_cases hin : p ∈ keysM c
      · obtain ⟨z, hz, hzp⟩ := List.mem_map.1 hin
        obtain ⟨k, hk⟩ := List.getElem?_of_mem hz
        have hlx : look c p = z.2 := by rw [← hzp]; exact look_mem hn hz
        have e3 : IntKind.i64.wrap ((z.2 : Int) + 1) = ((z.2 + 1 : Nat) : Int) := by rw [wrap_i64 (by omega) (by omega)]; omega
        refine ⟨mes_ok hn, at_yes rfl hn hk (by rw [hzp]; rfl) ?_⟩
        (conv => whnf); (repeat' first | ((with_reducible refine Box.mk ?_); conv => whnf) | ((with_reducible refine And.intro (fun _ => ?_) (fun _ => ?_)) <;> conv => whnf) | ((with_reducible show AYld _ _ _ _ _); (refine AYld.of tok mixed ?_); conv => whnf) | ((with_reducible show forceH _ _); (refine (forceH_eq _ _).mpr ?_); conv => whnf) | ((with_reducible show ACall _ _ _ _ _); (refine ACall.of_pure (by assumption) (by rfl) ?_); conv => whnf) | ((with_reducible show Exists _); (refine ⟨_, ACall.of_pure (by assumption) (by rfl) ⟨rfl, rfl⟩, ?_⟩); conv => whnf) | ((with_reducible show _ ∧ _ ∧ _); (refine ⟨by omega, by omega, ?_⟩); conv => whnf) | fail)
        refine ⟨mes_ok hn, at_yes rfl hn hk (by rw [hzp]; rfl) ?_⟩
        (conv => whnf); (repeat' first | ((with_reducible refine Box.mk ?_); conv => whnf) | ((with_reducible refine And.intro (fun _ => ?_) (fun _ => ?_)) <;> conv => whnf) | ((with_reducible show AYld _ _ _ _ _); (refine AYld.of tok mixed ?_); conv => whnf) | ((with_reducible show forceH _ _); (refine (forceH_eq _ _).mpr ?_); conv => whnf) | ((with_reducible show ACall _ _ _ _ _); (refine ACall.of_pure (by assumption) (by rfl) ?_); conv => whnf) | ((with_reducible show Exists _); (refine ⟨_, ACall.of_pure (by assumption) (by rfl) ⟨rfl, rfl⟩, ?_⟩); conv => whnf) | ((with_reducible show _ ∧ _ ∧ _); (refine ⟨by omega, by omega, ?_⟩); conv => whnf) | fail)
        refine ⟨⟨⟨mes_ok hn, at_yes rfl hn hk (by rw [hzp]; rfl) ⟨rfl, rfl⟩⟩, trivial⟩, ?_⟩
        (conv => whnf); (repeat' first | ((with_reducible refine Box.mk ?_); conv => whnf) | ((with_reducible refine And.intro (fun _ => ?_) (fun _ => ?_)) <;> conv => whnf) | ((with_reducible show AYld _ _ _ _ _); (refine AYld.of tok mixed ?_); conv => whnf) | ((with_reducible show forceH _ _); (refine (forceH_eq _ _).mpr ?_); conv => whnf) | ((with_reducible show ACall _ _ _ _ _); (refine ACall.of_pure (by assumption) (by rfl) ?_); conv => whnf) | ((with_reducible show Exists _); (refine ⟨_, ACall.of_pure (by assumption) (by rfl) ⟨rfl, rfl⟩, ?_⟩); conv => whnf) | ((with_reducible show _ ∧ _ ∧ _); (refine ⟨by omega, by omega, ?_⟩); conv => whnf) | fail)
        refine ⟨mes_ok hn, at_stamp hk rfl ?_⟩
        (conv => whnf); (repeat' first | ((with_reducible refine Box.mk ?_); conv => whnf) | ((with_reducible refine And.intro (fun _ => ?_) (fun _ => ?_)) <;> conv => whnf) | ((with_reducible show AYld _ _ _ _ _); (refine AYld.of tok mixed ?_); conv => whnf) | ((with_reducible show forceH _ _); (refine (forceH_eq _ _).mpr ?_); conv => whnf) | ((with_reducible show ACall _ _ _ _ _); (refine ACall.of_pure (by assumption) (by rfl) ?_); conv => whnf) | ((with_reducible show Exists _); (refine ⟨_, ACall.of_pure (by assumption) (by rfl) ⟨rfl, rfl⟩, ?_⟩); conv => whnf) | ((with_reducible show _ ∧ _ ∧ _); (refine ⟨by omega, by omega, ?_⟩); conv => whnf) | fail)
        refine ⟨j + 1, hlt2, by omega, weak_ren_to [(0, true), (1, true), (2, true)] rfl rfl ?_ ⟨rfl, rfl, rfl, rfl, rfl, rfl, rfl, wrap_nat (m := 1) (by omega), trivial⟩⟩
        show MH s l ++ [Ob.map pks ((mes i64V 0 c).set k (pcs z.1, AV.int .i64 (IntKind.i64.wrap ((z.2 : Int) + 1)), k)) c.length] = MH s l ++ [Ob.map pks (mes i64V 0 (cntL (upsM s (L.take i) ++ q.take (j + 1)))) (cntL (upsM s (L.take i) ++ q.take (j + 1))).length]
        have e4 := addM_set (v := i64V) (k := 0) 1 hn hk
        rw [Nat.zero_add, hzp] at e4
        rw [hcs, e3, hzp]
        show _ ++ [Ob.map pks ((mes i64V 0 c).set k (pcs p, i64V (z.2 + 1), k)) c.length] = _
        rw [e4, ← addM_len_in 1 hin]
      · have hlx : look c p = 0 := look_none hin
        have e3 : IntKind.i64.wrap (0 + 1) = ((1 : Nat) : Int) := by decide
        have es : mes i64V 0 (c ++ [(p, 0)]) = mes i64V 0 c ++ [(pcs p, AV.int .i64 0, c.length)] := by rw [mes_snoc, Nat.zero_add]; rfl
        have hn2 : (keysM (c ++ [(p, 0)])).Nodup := by
          have := nodup_addM hn p 0
          rwa [addM_new 0 hin] at this
        have hk : (c ++ [(p, 0)])[c.length]? = some (p, 0) := by simp
        refine ⟨mes_ok hn, at_no rfl hin rfl ?_⟩
        (conv => whnf); (repeat' first | ((with_reducible refine Box.mk ?_); conv => whnf) | ((with_reducible refine And.intro (fun _ => ?_) (fun _ => ?_)) <;> conv => whnf) | ((with_reducible show AYld _ _ _ _ _); (refine AYld.of tok mixed ?_); conv => whnf) | ((with_reducible show forceH _ _); (refine (forceH_eq _ _).mpr ?_); conv => whnf) | ((with_reducible show ACall _ _ _ _ _); (refine ACall.of_pure (by assumption) (by rfl) ?_); conv => whnf) | ((with_reducible show Exists _); (refine ⟨_, ACall.of_pure (by assumption) (by rfl) ⟨rfl, rfl⟩, ?_⟩); conv => whnf) | ((with_reducible show _ ∧ _ ∧ _); (refine ⟨by omega, by omega, ?_⟩); conv => whnf) | fail)
        refine ⟨mes_ok hn, at_no rfl hin rfl ?_⟩
        (conv => whnf); (repeat' first | ((with_reducible refine Box.mk ?_); conv => whnf) | ((with_reducible refine And.intro (fun _ => ?_) (fun _ => ?_)) <;> conv => whnf) | ((with_reducible show AYld _ _ _ _ _); (refine AYld.of tok mixed ?_); conv => whnf) | ((with_reducible show forceH _ _); (refine (forceH_eq _ _).mpr ?_); conv => whnf) | ((with_reducible show ACall _ _ _ _ _); (refine ACall.of_pure (by assumption) (by rfl) ?_); conv => whnf) | ((with_reducible show Exists _); (refine ⟨_, ACall.of_pure (by assumption) (by rfl) ⟨rfl, rfl⟩, ?_⟩); conv => whnf) | ((with_reducible show _ ∧ _ ∧ _); (refine ⟨by omega, by omega, ?_⟩); conv => whnf) | fail)
        refine ⟨⟨⟨mes_ok' es hn2, at_yes' es rfl hn2 hk rfl ⟨rfl, rfl⟩⟩, trivial⟩, ?_⟩
        (conv => whnf); (repeat' first | ((with_reducible refine Box.mk ?_); conv => whnf) | ((with_reducible refine And.intro (fun _ => ?_) (fun _ => ?_)) <;> conv => whnf) | ((with_reducible show AYld _ _ _ _ _); (refine AYld.of tok mixed ?_); conv => whnf) | ((with_reducible show forceH _ _); (refine (forceH_eq _ _).mpr ?_); conv => whnf) | ((with_reducible show ACall _ _ _ _ _); (refine ACall.of_pure (by assumption) (by rfl) ?_); conv => whnf) | ((with_reducible show Exists _); (refine ⟨_, ACall.of_pure (by assumption) (by rfl) ⟨rfl, rfl⟩, ?_⟩); conv => whnf) | ((with_reducible show _ ∧ _ ∧ _); (refine ⟨by omega, by omega, ?_⟩); conv => whnf) | fail)
        refine ⟨mes_ok' es hn2, at_stamp' es hk rfl ?_⟩
        (conv => whnf); (repeat' first | ((with_reducible refine Box.mk ?_); conv => whnf) | ((with_reducible refine And.intro (fun _ => ?_) (fun _ => ?_)) <;> conv => whnf) | ((with_reducible show AYld _ _ _ _ _); (refine AYld.of tok mixed ?_); conv => whnf) | ((with_reducible show forceH _ _); (refine (forceH_eq _ _).mpr ?_); conv => whnf) | ((with_reducible show ACall _ _ _ _ _); (refine ACall.of_pure (by assumption) (by rfl) ?_); conv => whnf) | ((with_reducible show Exists _); (refine ⟨_, ACall.of_pure (by assumption) (by rfl) ⟨rfl, rfl⟩, ?_⟩); conv => whnf) | ((with_reducible show _ ∧ _ ∧ _); (refine ⟨by omega, by omega, ?_⟩); conv => whnf) | fail)
        refine ⟨j + 1, hlt2, by omega, weak_ren_to [(0, true), (1, true), (2, true)] rfl rfl ?_ ⟨rfl, rfl, rfl, rfl, rfl, rfl, rfl, wrap_nat (m := 1) (by omega), trivial⟩⟩
        show MH s l ++ [Ob.map pks ((mes i64V 0 c ++ [(pcs p, AV.int .i64 0, c.length)]).set c.length (pcs p, AV.int .i64 (IntKind.i64.wrap (0 + 1)), c.length)) (c.length + 1)] = MH s l ++ [Ob.map pks (mes i64V 0 (cntL (upsM s (L.take i) ++ q.take (j + 1)))) (cntL (upsM s (L.take i) ++ q.take (j + 1))).length]
        have e4 := addM_set (v := i64V) (k := 0) 1 hn2 hk
        rw [Nat.zero_add, es, Nat.zero_add, addM_two hin, ← addM_new 1 hin] at e4
        rw [hcs, e3]
        show _ ++ [Ob.map pks ((mes i64V 0 c ++ [(pcs p, AV.int .i64 0, c.length)]).set c.length (pcs p, i64V 1, c.length)) (c.length + 1)] = _
        rw [e4]
        have e8 : (addM c p 1).length = c.length + 1 := by rw [addM_new 1 hin, List.length_append]; rfl
        rw [e8]
    · rename_i hlt2
      have : j = q.length := by rw [hqc] at hlt2; omega
      subst this
      refine ⟨i + 1, hlt, by omega, weak_to ⟨rfl, rfl, rfl, rfl, wrap_nat (m := 1) (by omega), trivial⟩ ?_⟩
      rw [hst, List.take_length]
      rfl
  · rename_i hlt
    have : i = L.length := by rw [hLc] at hlt; omega
    subst this
    rw [List.take_length] at *
    refine aW [2] (keysI_fn (cntL (upsM s L))) rfl rfl rfl ?_
    (conv => whnf); (repeat' first | ((with_reducible refine Box.mk ?_); conv => whnf) | ((with_reducible refine And.intro (fun _ => ?_) (fun _ => ?_)) <;> conv => whnf) | ((with_reducible show AYld _ _ _ _ _); (refine AYld.of tok mixed ?_); conv => whnf) | ((with_reducible show forceH _ _); (refine (forceH_eq _ _).mpr ?_); conv => whnf) | ((with_reducible show ACall _ _ _ _ _); (refine ACall.of_pure (by assumption) (by rfl) ?_); conv => whnf) | ((with_reducible show Exists _); (refine ⟨_, ACall.of_pure (by assumption) (by rfl) ⟨rfl, rfl⟩, ?_⟩); conv => whnf) | ((with_reducible show ∃ L, drawR L _ = true ∧ _); (refine ⟨[], by kernel_rfl, ?_⟩); conv => whnf) | ((with_reducible show _ ∧ _ ∧ _); (refine ⟨by omega, by omega, ?_⟩); conv => whnf) | fail)
    refine aW [2, 3] q3 rfl rfl rfl ?_
    (conv => whnf); (repeat' first | ((with_reducible refine Box.mk ?_); conv => whnf) | ((with_reducible refine And.intro (fun _ => ?_) (fun _ => ?_)) <;> conv => whnf) | ((with_reducible show AYld _ _ _ _ _); (refine AYld.of tok mixed ?_); conv => whnf) | ((with_reducible show forceH _ _); (refine (forceH_eq _ _).mpr ?_); conv => whnf) | ((with_reducible show ACall _ _ _ _ _); (refine ACall.of_pure (by assumption) (by rfl) ?_); conv => whnf) | ((with_reducible show Exists _); (refine ⟨_, ACall.of_pure (by assumption) (by rfl) ⟨rfl, rfl⟩, ?_⟩); conv => whnf) | ((with_reducible show ∃ L, drawR L _ = true ∧ _); (refine ⟨[], by kernel_rfl, ?_⟩); conv => whnf) | ((with_reducible show _ ∧ _ ∧ _); (refine ⟨by omega, by omega, ?_⟩); conv => whnf) | fail)
    exact weak_ren_to [(0, true), (1, true)] rfl rfl rfl ⟨rfl, trivial⟩
end Go.Proofs.YtgaohmfmomeflaaGreatDoor
end

section
/- model: Join; what is filled with all that can be put. -/
namespace Go.Proofs.YtgaohmfmomeflaaGreatDoor
open Go.Ve

/-- A model at these objects. -/
def MHat (k : Nat) (s : Sp) (l : Ml) : Hp := [.box 94 [.int .i64 s.n, .int .i64 s.d0.kind, .int .i64 s.d0.side, .int .i64 s.d0.step, .int .i64 s.d1.kind, .int .i64 s.d1.side, .int .i64 s.d1.step, .int .u64 (totM l : Int), .own (k + 1)], .map pks (mes u64V 0 l) l.length]
theorem sp_eq {s t : Sp} : (s.n = t.n ∧ s.d0.kind = t.d0.kind ∧ s.d0.side = t.d0.side ∧ s.d0.step = t.d0.step ∧ s.d1.kind = t.d1.kind ∧ s.d1.side = t.d1.side ∧ s.d1.step = t.d1.step) ↔ s = t := by
  refine ⟨fun ⟨h1, h2, h3, h4, h5, h6, h7⟩ => ?_, fun h => by rw [h]; exact ⟨rfl, rfl, rfl, rfl, rfl, rfl, rfl⟩⟩
  have e0 := dm_ext h2 h3 h4
  have e1 := dm_ext h5 h6 h7
  cases s; cases t
  simp only at h1 e0 e1
  rw [h1, e0, e1]
theorem tot_step {L : Ml} {i : Nat} {x : Px × Nat} (h : L[i]? = some x) : totM (L.take (i + 1)) = totM (L.take i) + x.2 := by
  rw [List.take_add_one, h]
  exact (sumF_app _ _ _).trans (by simp [sumF])
theorem tot_take_le (L : Ml) (i : Nat) : totM (L.take i) ≤ totM L := by
  have h : totM (L.take i ++ L.drop i) = _ := sumF_app _ _ _
  rw [List.take_append_drop] at h
  rw [h]; exact Nat.le_add_right _ _
theorem join_good (s : Sp) (l l' : Ml) (hI : MI s l) (hI' : MI s l') (ht : totM l + totM l' ≤ 4611686018427387904) :
    DCall P 16 [.ptr 0 0, .ptr 2 0] (MHat 0 s l ++ MHat 2 s l') (.int .i64 0) (MHat 0 s (putF l (loadsM l')) ++ MHat 2 s l') := by
  have q1 := made_ok s l
  have q1' := made_ok s l'
  have q2 := loads_ok s l' hI'
  have e1 : IntKind.u64.wrap (4611686018427387904 - (totM l' : Int)) = ((4611686018427387904 - totM l' : Nat) : Int) := by rw [wrap_u64 (by omega) (by omega)]; omega
  have hl' := hI'.len
  have hLl := loadsM_len (l := l')
  have hLt : totM (loadsM l') = totM l' := sumF_loadsM _ hI'.nodup
  have hLo := hI'.ok.loads
  have hLf : ∀ p ∈ keysM (loadsM l'), leafR s p = true := fun p hp => hI'.leaf p (by rw [keys_loadsM, heavyK_mem] at hp; exact look_key hp)
  generalize loadsM l' = L at *
  have hLc := lcl_len L
  refine DCall.of_awp tok mixed fn16 (Nat.le_of_ble_eq_true rfl) ?_
  (conv => whnf); (repeat' first | ((with_reducible refine Box.mk ?_); conv => whnf) | ((with_reducible refine And.intro (fun _ => ?_) (fun _ => ?_)) <;> conv => whnf) | ((with_reducible show AYld _ _ _ _ _); (refine AYld.of tok mixed ?_); conv => whnf) | ((with_reducible show forceH _ _); (refine (forceH_eq _ _).mpr ?_); conv => whnf) | ((with_reducible show ACall _ _ _ _ _); (refine ACall.of_pure (by assumption) (by rfl) ?_); conv => whnf) | ((with_reducible show Exists _); (refine ⟨_, ACall.of_pure (by assumption) (by rfl) ⟨rfl, rfl⟩, ?_⟩); conv => whnf) | ((with_reducible show _ ∧ _ ∧ _); (refine ⟨by omega, by omega, ?_⟩); conv => whnf) | fail)
  refine aW [0, 1] q1 rfl rfl rfl ?_
  (conv => whnf); (repeat' first | ((with_reducible refine Box.mk ?_); conv => whnf) | ((with_reducible refine And.intro (fun _ => ?_) (fun _ => ?_)) <;> conv => whnf) | ((with_reducible show AYld _ _ _ _ _); (refine AYld.of tok mixed ?_); conv => whnf) | ((with_reducible show forceH _ _); (refine (forceH_eq _ _).mpr ?_); conv => whnf) | ((with_reducible show ACall _ _ _ _ _); (refine ACall.of_pure (by assumption) (by rfl) ?_); conv => whnf) | ((with_reducible show Exists _); (refine ⟨_, ACall.of_pure (by assumption) (by rfl) ⟨rfl, rfl⟩, ?_⟩); conv => whnf) | ((with_reducible show _ ∧ _ ∧ _); (refine ⟨by omega, by omega, ?_⟩); conv => whnf) | fail)
  refine aW [2, 3] q1' rfl rfl rfl ?_
  (conv => whnf); (repeat' first | ((with_reducible refine Box.mk ?_); conv => whnf) | ((with_reducible refine And.intro (fun _ => ?_) (fun _ => ?_)) <;> conv => whnf) | ((with_reducible show AYld _ _ _ _ _); (refine AYld.of tok mixed ?_); conv => whnf) | ((with_reducible show forceH _ _); (refine (forceH_eq _ _).mpr ?_); conv => whnf) | ((with_reducible show ACall _ _ _ _ _); (refine ACall.of_pure (by assumption) (by rfl) ?_); conv => whnf) | ((with_reducible show Exists _); (refine ⟨_, ACall.of_pure (by assumption) (by rfl) ⟨rfl, rfl⟩, ?_⟩); conv => whnf) | ((with_reducible show _ ∧ _ ∧ _); (refine ⟨by omega, by omega, ?_⟩); conv => whnf) | fail)
  refine ⟨[], by kernel_rfl, ?_⟩
  (conv => whnf); (repeat' first | ((with_reducible refine Box.mk ?_); conv => whnf) | ((with_reducible refine And.intro (fun _ => ?_) (fun _ => ?_)) <;> conv => whnf) | ((with_reducible show AYld _ _ _ _ _); (refine AYld.of tok mixed ?_); conv => whnf) | ((with_reducible show forceH _ _); (refine (forceH_eq _ _).mpr ?_); conv => whnf) | ((with_reducible show ACall _ _ _ _ _); (refine ACall.of_pure (by assumption) (by rfl) ?_); conv => whnf) | ((with_reducible show Exists _); (refine ⟨_, ACall.of_pure (by assumption) (by rfl) ⟨rfl, rfl⟩, ?_⟩); conv => whnf) | ((with_reducible show _ ∧ _ ∧ _); (refine ⟨by omega, by omega, ?_⟩); conv => whnf) | fail)
  rotate_left
  · rename_i h; exact absurd (sp_eq.2 rfl) h
  refine ⟨[], by kernel_rfl, ?_⟩
  (conv => whnf); (repeat' first | ((with_reducible refine Box.mk ?_); conv => whnf) | ((with_reducible refine And.intro (fun _ => ?_) (fun _ => ?_)) <;> conv => whnf) | ((with_reducible show AYld _ _ _ _ _); (refine AYld.of tok mixed ?_); conv => whnf) | ((with_reducible show forceH _ _); (refine (forceH_eq _ _).mpr ?_); conv => whnf) | ((with_reducible show ACall _ _ _ _ _); (refine ACall.of_pure (by assumption) (by rfl) ?_); conv => whnf) | ((with_reducible show Exists _); (refine ⟨_, ACall.of_pure (by assumption) (by rfl) ⟨rfl, rfl⟩, ?_⟩); conv => whnf) | ((with_reducible show _ ∧ _ ∧ _); (refine ⟨by omega, by omega, ?_⟩); conv => whnf) | fail)
  all_goals try (exfalso; omega)
  refine aW [2, 3] q2 rfl rfl rfl ?_
  (conv => whnf); (repeat' first | ((with_reducible refine Box.mk ?_); conv => whnf) | ((with_reducible refine And.intro (fun _ => ?_) (fun _ => ?_)) <;> conv => whnf) | ((with_reducible show AYld _ _ _ _ _); (refine AYld.of tok mixed ?_); conv => whnf) | ((with_reducible show forceH _ _); (refine (forceH_eq _ _).mpr ?_); conv => whnf) | ((with_reducible show ACall _ _ _ _ _); (refine ACall.of_pure (by assumption) (by rfl) ?_); conv => whnf) | ((with_reducible show Exists _); (refine ⟨_, ACall.of_pure (by assumption) (by rfl) ⟨rfl, rfl⟩, ?_⟩); conv => whnf) | ((with_reducible show _ ∧ _ ∧ _); (refine ⟨by omega, by omega, ?_⟩); conv => whnf) | fail)
  refine aloop (fun i : Nat => i ≤ L.length) (fun i => ⟨envL [(0, .ptr 0 0), (38, .sl (lcl L)), (39, .int .i64 ((lcl L).length : Int)), (40, .int .i64 (i : Int))], MHat 0 s (putF l (L.take i)) ++ MHat 2 s l'⟩) (fun i => L.length - i) 0 (Nat.zero_le _)
    (weak_to ⟨rfl, rfl, rfl, rfl, trivial⟩ rfl) ?_
  intro i hi
  (conv => whnf); (repeat' first | ((with_reducible refine Box.mk ?_); conv => whnf) | ((with_reducible refine And.intro (fun _ => ?_) (fun _ => ?_)) <;> conv => whnf) | ((with_reducible show AYld _ _ _ _ _); (refine AYld.of tok mixed ?_); conv => whnf) | ((with_reducible show forceH _ _); (refine (forceH_eq _ _).mpr ?_); conv => whnf) | ((with_reducible show ACall _ _ _ _ _); (refine ACall.of_pure (by assumption) (by rfl) ?_); conv => whnf) | ((with_reducible show Exists _); (refine ⟨_, ACall.of_pure (by assumption) (by rfl) ⟨rfl, rfl⟩, ?_⟩); conv => whnf) | ((with_reducible show _ ∧ _ ∧ _); (refine ⟨by omega, by omega, ?_⟩); conv => whnf) | fail)
  · rename_i hlt
    have hlt : i < L.length := by rw [hLc] at hlt; omega
    have hx := List.getElem?_eq_getElem hlt
    have hst : putF l (L.take (i + 1)) = addM (putF l (L.take i)) L[i].1 L[i].2 := by
      rw [List.take_add_one, hx]; exact putF_snoc _ _ _
    have hxo : POk L[i].1 := hLo.at (List.mem_of_getElem? hx)
    have hxf := hLf L[i].1 (List.mem_map.2 ⟨_, List.mem_of_getElem? hx, rfl⟩)
    have hto : totM (L.take i) + L[i].2 ≤ totM L := by rw [← tot_step hx]; exact tot_take_le _ _
    have htp : totM (putF l (L.take i)) = totM l + totM (L.take i) := sumF_putF _ _ _
    have hnp : (keysM (putF l (L.take i))).Nodup := nodup_putF _ hI.nodup
    generalize L[i] = x at *
    have q3 := put_good s (putF l (L.take i)) hnp x.1 hxo x.2 (by omega) hxf (by omega)
    rw [← hst] at q3
    refine ⟨by omega, lcs x, by rw [Int.toNat_natCast, lcl_get, hx]; rfl, rfl, ?_⟩
    (conv => whnf); (repeat' first | ((with_reducible refine Box.mk ?_); conv => whnf) | ((with_reducible refine And.intro (fun _ => ?_) (fun _ => ?_)) <;> conv => whnf) | ((with_reducible show AYld _ _ _ _ _); (refine AYld.of tok mixed ?_); conv => whnf) | ((with_reducible show forceH _ _); (refine (forceH_eq _ _).mpr ?_); conv => whnf) | ((with_reducible show ACall _ _ _ _ _); (refine ACall.of_pure (by assumption) (by rfl) ?_); conv => whnf) | ((with_reducible show Exists _); (refine ⟨_, ACall.of_pure (by assumption) (by rfl) ⟨rfl, rfl⟩, ?_⟩); conv => whnf) | ((with_reducible show _ ∧ _ ∧ _); (refine ⟨by omega, by omega, ?_⟩); conv => whnf) | fail)
    refine aW [0, 1] q3 rfl rfl rfl ?_
    (conv => whnf); (repeat' first | ((with_reducible refine Box.mk ?_); conv => whnf) | ((with_reducible refine And.intro (fun _ => ?_) (fun _ => ?_)) <;> conv => whnf) | ((with_reducible show AYld _ _ _ _ _); (refine AYld.of tok mixed ?_); conv => whnf) | ((with_reducible show forceH _ _); (refine (forceH_eq _ _).mpr ?_); conv => whnf) | ((with_reducible show ACall _ _ _ _ _); (refine ACall.of_pure (by assumption) (by rfl) ?_); conv => whnf) | ((with_reducible show Exists _); (refine ⟨_, ACall.of_pure (by assumption) (by rfl) ⟨rfl, rfl⟩, ?_⟩); conv => whnf) | ((with_reducible show _ ∧ _ ∧ _); (refine ⟨by omega, by omega, ?_⟩); conv => whnf) | fail)
    exact ⟨i + 1, hlt, by omega, weak_ren_to [(0, true), (1, true), (2, true), (3, true)] rfl rfl rfl ⟨rfl, rfl, rfl, wrap_nat (m := 1) (by omega), trivial⟩⟩
  · rename_i hlt
    have : i = L.length := by rw [hLc] at hlt; omega
    subst this
    rw [List.take_length]
    exact weak_to ⟨rfl, trivial⟩ rfl
theorem join_self (s : Sp) (l : Ml) (hI : MI s l) (ht : totM l + totM l ≤ 4611686018427387904) :
    DCall P 16 [.ptr 0 0, .ptr 0 0] (MHat 0 s l) (.int .i64 0) (MHat 0 s (putF l (loadsM l))) := by
  have q1 := made_ok s l
  have q2 := loads_ok s l hI
  have e1 : IntKind.u64.wrap (4611686018427387904 - (totM l : Int)) = ((4611686018427387904 - totM l : Nat) : Int) := by rw [wrap_u64 (by omega) (by omega)]; omega
  have hl := hI.len
  have hLl := loadsM_len (l := l)
  have hLt : totM (loadsM l) = totM l := sumF_loadsM _ hI.nodup
  have hLo := hI.ok.loads
  have hLf : ∀ p ∈ keysM (loadsM l), leafR s p = true := fun p hp => hI.leaf p (by rw [keys_loadsM, heavyK_mem] at hp; exact look_key hp)
  generalize loadsM l = L at *
  have hLc := lcl_len L
  refine DCall.of_awp tok mixed fn16 (Nat.le_of_ble_eq_true rfl) ?_
  (conv => whnf); (repeat' first | ((with_reducible refine Box.mk ?_); conv => whnf) | ((with_reducible refine And.intro (fun _ => ?_) (fun _ => ?_)) <;> conv => whnf) | ((with_reducible show AYld _ _ _ _ _); (refine AYld.of tok mixed ?_); conv => whnf) | ((with_reducible show forceH _ _); (refine (forceH_eq _ _).mpr ?_); conv => whnf) | ((with_reducible show ACall _ _ _ _ _); (refine ACall.of_pure (by assumption) (by rfl) ?_); conv => whnf) | ((with_reducible show Exists _); (refine ⟨_, ACall.of_pure (by assumption) (by rfl) ⟨rfl, rfl⟩, ?_⟩); conv => whnf) | ((with_reducible show _ ∧ _ ∧ _); (refine ⟨by omega, by omega, ?_⟩); conv => whnf) | fail)
  refine aW [0, 1] q1 rfl rfl rfl ?_
  (conv => whnf); (repeat' first | ((with_reducible refine Box.mk ?_); conv => whnf) | ((with_reducible refine And.intro (fun _ => ?_) (fun _ => ?_)) <;> conv => whnf) | ((with_reducible show AYld _ _ _ _ _); (refine AYld.of tok mixed ?_); conv => whnf) | ((with_reducible show forceH _ _); (refine (forceH_eq _ _).mpr ?_); conv => whnf) | ((with_reducible show ACall _ _ _ _ _); (refine ACall.of_pure (by assumption) (by rfl) ?_); conv => whnf) | ((with_reducible show Exists _); (refine ⟨_, ACall.of_pure (by assumption) (by rfl) ⟨rfl, rfl⟩, ?_⟩); conv => whnf) | ((with_reducible show _ ∧ _ ∧ _); (refine ⟨by omega, by omega, ?_⟩); conv => whnf) | fail)
  refine aW [0, 1] q1 rfl rfl rfl ?_
  (conv => whnf); (repeat' first | ((with_reducible refine Box.mk ?_); conv => whnf) | ((with_reducible refine And.intro (fun _ => ?_) (fun _ => ?_)) <;> conv => whnf) | ((with_reducible show AYld _ _ _ _ _); (refine AYld.of tok mixed ?_); conv => whnf) | ((with_reducible show forceH _ _); (refine (forceH_eq _ _).mpr ?_); conv => whnf) | ((with_reducible show ACall _ _ _ _ _); (refine ACall.of_pure (by assumption) (by rfl) ?_); conv => whnf) | ((with_reducible show Exists _); (refine ⟨_, ACall.of_pure (by assumption) (by rfl) ⟨rfl, rfl⟩, ?_⟩); conv => whnf) | ((with_reducible show _ ∧ _ ∧ _); (refine ⟨by omega, by omega, ?_⟩); conv => whnf) | fail)
  refine ⟨[], by kernel_rfl, ?_⟩
  (conv => whnf); (repeat' first | ((with_reducible refine Box.mk ?_); conv => whnf) | ((with_reducible refine And.intro (fun _ => ?_) (fun _ => ?_)) <;> conv => whnf) | ((with_reducible show AYld _ _ _ _ _); (refine AYld.of tok mixed ?_); conv => whnf) | ((with_reducible show forceH _ _); (refine (forceH_eq _ _).mpr ?_); conv => whnf) | ((with_reducible show ACall _ _ _ _ _); (refine ACall.of_pure (by assumption) (by rfl) ?_); conv => whnf) | ((with_reducible show Exists _); (refine ⟨_, ACall.of_pure (by assumption) (by rfl) ⟨rfl, rfl⟩, ?_⟩); conv => whnf) | ((with_reducible show _ ∧ _ ∧ _); (refine ⟨by omega, by omega, ?_⟩); conv => whnf) | fail)
  rotate_left
  · rename_i h; exact absurd (sp_eq.2 rfl) h
  refine ⟨[], by kernel_rfl, ?_⟩
  (conv => whnf); (repeat' first | ((with_reducible refine Box.mk ?_); conv => whnf) | ((with_reducible refine And.intro (fun _ => ?_) (fun _ => ?_)) <;> conv => whnf) | ((with_reducible show AYld _ _ _ _ _); (refine AYld.of tok mixed ?_); conv => whnf) | ((with_reducible show forceH _ _); (refine (forceH_eq _ _).mpr ?_); conv => whnf) | ((with_reducible show ACall _ _ _ _ _); (refine ACall.of_pure (by assumption) (by rfl) ?_); conv => whnf) | ((with_reducible show Exists _); (refine ⟨_, ACall.of_pure (by assumption) (by rfl) ⟨rfl, rfl⟩, ?_⟩); conv => whnf) | ((with_reducible show _ ∧ _ ∧ _); (refine ⟨by omega, by omega, ?_⟩); conv => whnf) | fail)
  all_goals try (exfalso; omega)
  refine aW [0, 1] q2 rfl rfl rfl ?_
  (conv => whnf); (repeat' first | ((with_reducible refine Box.mk ?_); conv => whnf) | ((with_reducible refine And.intro (fun _ => ?_) (fun _ => ?_)) <;> conv => whnf) | ((with_reducible show AYld _ _ _ _ _); (refine AYld.of tok mixed ?_); conv => whnf) | ((with_reducible show forceH _ _); (refine (forceH_eq _ _).mpr ?_); conv => whnf) | ((with_reducible show ACall _ _ _ _ _); (refine ACall.of_pure (by assumption) (by rfl) ?_); conv => whnf) | ((with_reducible show Exists _); (refine ⟨_, ACall.of_pure (by assumption) (by rfl) ⟨rfl, rfl⟩, ?_⟩); conv => whnf) | ((with_reducible show _ ∧ _ ∧ _); (refine ⟨by omega, by omega, ?_⟩); conv => whnf) | fail)
  refine aloop (fun i : Nat => i ≤ L.length) (fun i => ⟨envL [(0, .ptr 0 0), (38, .sl (lcl L)), (39, .int .i64 ((lcl L).length : Int)), (40, .int .i64 (i : Int))], MHat 0 s (putF l (L.take i))⟩) (fun i => L.length - i) 0 (Nat.zero_le _)
    (weak_to ⟨rfl, rfl, rfl, rfl, trivial⟩ rfl) ?_
  intro i hi
  (conv => whnf); (repeat' first | ((with_reducible refine Box.mk ?_); conv => whnf) | ((with_reducible refine And.intro (fun _ => ?_) (fun _ => ?_)) <;> conv => whnf) | ((with_reducible show AYld _ _ _ _ _); (refine AYld.of tok mixed ?_); conv => whnf) | ((with_reducible show forceH _ _); (refine (forceH_eq _ _).mpr ?_); conv => whnf) | ((with_reducible show ACall _ _ _ _ _); (refine ACall.of_pure (by assumption) (by rfl) ?_); conv => whnf) | ((with_reducible show Exists _); (refine ⟨_, ACall.of_pure (by assumption) (by rfl) ⟨rfl, rfl⟩, ?_⟩); conv => whnf) | ((with_reducible show _ ∧ _ ∧ _); (refine ⟨by omega, by omega, ?_⟩); conv => whnf) | fail)
  · rename_i hlt
    have hlt : i < L.length := by rw [hLc] at hlt; omega
    have hx := List.getElem?_eq_getElem hlt
    have hst : putF l (L.take (i + 1)) = addM (putF l (L.take i)) L[i].1 L[i].2 := by
      rw [List.take_add_one, hx]; exact putF_snoc _ _ _
    have hxo : POk L[i].1 := hLo.at (List.mem_of_getElem? hx)
    have hxf := hLf L[i].1 (List.mem_map.2 ⟨_, List.mem_of_getElem? hx, rfl⟩)
    have hto : totM (L.take i) + L[i].2 ≤ totM L := by rw [← tot_step hx]; exact tot_take_le _ _
    have htp : totM (putF l (L.take i)) = totM l + totM (L.take i) := sumF_putF _ _ _
    have hnp : (keysM (putF l (L.take i))).Nodup := nodup_putF _ hI.nodup
    generalize L[i] = x at *
    have q3 := put_good s (putF l (L.take i)) hnp x.1 hxo x.2 (by omega) hxf (by omega)
    rw [← hst] at q3
    refine ⟨by omega, lcs x, by rw [Int.toNat_natCast, lcl_get, hx]; rfl, rfl, ?_⟩
    (conv => whnf); (repeat' first | ((with_reducible refine Box.mk ?_); conv => whnf) | ((with_reducible refine And.intro (fun _ => ?_) (fun _ => ?_)) <;> conv => whnf) | ((with_reducible show AYld _ _ _ _ _); (refine AYld.of tok mixed ?_); conv => whnf) | ((with_reducible show forceH _ _); (refine (forceH_eq _ _).mpr ?_); conv => whnf) | ((with_reducible show ACall _ _ _ _ _); (refine ACall.of_pure (by assumption) (by rfl) ?_); conv => whnf) | ((with_reducible show Exists _); (refine ⟨_, ACall.of_pure (by assumption) (by rfl) ⟨rfl, rfl⟩, ?_⟩); conv => whnf) | ((with_reducible show _ ∧ _ ∧ _); (refine ⟨by omega, by omega, ?_⟩); conv => whnf) | fail)
    refine aW [0, 1] q3 rfl rfl rfl ?_
    (conv => whnf); (repeat' first | ((with_reducible refine Box.mk ?_); conv => whnf) | ((with_reducible refine And.intro (fun _ => ?_) (fun _ => ?_)) <;> conv => whnf) | ((with_reducible show AYld _ _ _ _ _); (refine AYld.of tok mixed ?_); conv => whnf) | ((with_reducible show forceH _ _); (refine (forceH_eq _ _).mpr ?_); conv => whnf) | ((with_reducible show ACall _ _ _ _ _); (refine ACall.of_pure (by assumption) (by rfl) ?_); conv => whnf) | ((with_reducible show Exists _); (refine ⟨_, ACall.of_pure (by assumption) (by rfl) ⟨rfl, rfl⟩, ?_⟩); conv => whnf) | ((with_reducible show _ ∧ _ ∧ _); (refine ⟨by omega, by omega, ?_⟩); conv => whnf) | fail)
    exact ⟨i + 1, hlt, by omega, weak_ren_to [(0, true), (1, true)] rfl rfl rfl ⟨rfl, rfl, rfl, wrap_nat (m := 1) (by omega), trivial⟩⟩
  · rename_i hlt
    have : i = L.length := by rw [hLc] at hlt; omega
    subst this
    rw [List.take_length]
    exact weak_to ⟨rfl, trivial⟩ rfl
end Go.Proofs.YtgaohmfmomeflaaGreatDoor
end

section
/- model: Join that is refused; what is filled with all that can be put. -/
namespace Go.Proofs.YtgaohmfmomeflaaGreatDoor
open Go.Ve

theorem join_over (s : Sp) (l l' : Ml) (hI : MI s l) (hI' : MI s l') (ht : 4611686018427387904 < totM l + totM l') :
    DCall P 16 [.ptr 0 0, .ptr 2 0] (MHat 0 s l ++ MHat 2 s l') (.int .i64 13) (MHat 0 s l ++ MHat 2 s l') := by
  have q1 := made_ok s l
  have q1' := made_ok s l'
  have h1 := hI.tot
  have h2 := hI'.tot
  have e1 : IntKind.u64.wrap (4611686018427387904 - (totM l' : Int)) = ((4611686018427387904 - totM l' : Nat) : Int) := by rw [wrap_u64 (by omega) (by omega)]; omega
  refine DCall.of_awp tok mixed fn16 (Nat.le_of_ble_eq_true rfl) ?_
  (conv => whnf); (repeat' first | ((with_reducible refine Box.mk ?_); conv => whnf) | ((with_reducible refine And.intro (fun _ => ?_) (fun _ => ?_)) <;> conv => whnf) | ((with_reducible show AYld _ _ _ _ _); (refine AYld.of tok mixed ?_); conv => whnf) | ((with_reducible show forceH _ _); (refine (forceH_eq _ _).mpr ?_); conv => whnf) | ((with_reducible show ACall _ _ _ _ _); (refine ACall.of_pure (by assumption) (by rfl) ?_); conv => whnf) | ((with_reducible show Exists _); (refine ⟨_, ACall.of_pure (by assumption) (by rfl) ⟨rfl, rfl⟩, ?_⟩); conv => whnf) | ((with_reducible show _ ∧ _ ∧ _); (refine ⟨by omega, by omega, ?_⟩); conv => whnf) | fail)
  refine aW [0, 1] q1 rfl rfl rfl ?_
  (conv => whnf); (repeat' first | ((with_reducible refine Box.mk ?_); conv => whnf) | ((with_reducible refine And.intro (fun _ => ?_) (fun _ => ?_)) <;> conv => whnf) | ((with_reducible show AYld _ _ _ _ _); (refine AYld.of tok mixed ?_); conv => whnf) | ((with_reducible show forceH _ _); (refine (forceH_eq _ _).mpr ?_); conv => whnf) | ((with_reducible show ACall _ _ _ _ _); (refine ACall.of_pure (by assumption) (by rfl) ?_); conv => whnf) | ((with_reducible show Exists _); (refine ⟨_, ACall.of_pure (by assumption) (by rfl) ⟨rfl, rfl⟩, ?_⟩); conv => whnf) | ((with_reducible show _ ∧ _ ∧ _); (refine ⟨by omega, by omega, ?_⟩); conv => whnf) | fail)
  refine aW [2, 3] q1' rfl rfl rfl ?_
  (conv => whnf); (repeat' first | ((with_reducible refine Box.mk ?_); conv => whnf) | ((with_reducible refine And.intro (fun _ => ?_) (fun _ => ?_)) <;> conv => whnf) | ((with_reducible show AYld _ _ _ _ _); (refine AYld.of tok mixed ?_); conv => whnf) | ((with_reducible show forceH _ _); (refine (forceH_eq _ _).mpr ?_); conv => whnf) | ((with_reducible show ACall _ _ _ _ _); (refine ACall.of_pure (by assumption) (by rfl) ?_); conv => whnf) | ((with_reducible show Exists _); (refine ⟨_, ACall.of_pure (by assumption) (by rfl) ⟨rfl, rfl⟩, ?_⟩); conv => whnf) | ((with_reducible show _ ∧ _ ∧ _); (refine ⟨by omega, by omega, ?_⟩); conv => whnf) | fail)
  refine ⟨[], by kernel_rfl, ?_⟩
  (conv => whnf); (repeat' first | ((with_reducible refine Box.mk ?_); conv => whnf) | ((with_reducible refine And.intro (fun _ => ?_) (fun _ => ?_)) <;> conv => whnf) | ((with_reducible show AYld _ _ _ _ _); (refine AYld.of tok mixed ?_); conv => whnf) | ((with_reducible show forceH _ _); (refine (forceH_eq _ _).mpr ?_); conv => whnf) | ((with_reducible show ACall _ _ _ _ _); (refine ACall.of_pure (by assumption) (by rfl) ?_); conv => whnf) | ((with_reducible show Exists _); (refine ⟨_, ACall.of_pure (by assumption) (by rfl) ⟨rfl, rfl⟩, ?_⟩); conv => whnf) | ((with_reducible show _ ∧ _ ∧ _); (refine ⟨by omega, by omega, ?_⟩); conv => whnf) | fail)
  rotate_left
  · rename_i h; exact absurd (sp_eq.2 rfl) h
  refine ⟨[], by kernel_rfl, ?_⟩
  (conv => whnf); (repeat' first | ((with_reducible refine Box.mk ?_); conv => whnf) | ((with_reducible refine And.intro (fun _ => ?_) (fun _ => ?_)) <;> conv => whnf) | ((with_reducible show AYld _ _ _ _ _); (refine AYld.of tok mixed ?_); conv => whnf) | ((with_reducible show forceH _ _); (refine (forceH_eq _ _).mpr ?_); conv => whnf) | ((with_reducible show ACall _ _ _ _ _); (refine ACall.of_pure (by assumption) (by rfl) ?_); conv => whnf) | ((with_reducible show Exists _); (refine ⟨_, ACall.of_pure (by assumption) (by rfl) ⟨rfl, rfl⟩, ?_⟩); conv => whnf) | ((with_reducible show _ ∧ _ ∧ _); (refine ⟨by omega, by omega, ?_⟩); conv => whnf) | fail)
  · exact weak_to ⟨rfl, trivial⟩ rfl
  all_goals (exfalso; omega)
theorem join_nil (s : Sp) (l : Ml) : DCall P 16 [.nilp, .ptr 0 0] (MHat 0 s l) (.int .i64 6) (MHat 0 s l) := by
  have q1 := made_nil
  refine DCall.of_awp tok mixed fn16 (Nat.le_of_ble_eq_true rfl) ?_
  (conv => whnf); (repeat' first | ((with_reducible refine Box.mk ?_); conv => whnf) | ((with_reducible refine And.intro (fun _ => ?_) (fun _ => ?_)) <;> conv => whnf) | ((with_reducible show AYld _ _ _ _ _); (refine AYld.of tok mixed ?_); conv => whnf) | ((with_reducible show forceH _ _); (refine (forceH_eq _ _).mpr ?_); conv => whnf) | ((with_reducible show ACall _ _ _ _ _); (refine ACall.of_pure (by assumption) (by rfl) ?_); conv => whnf) | ((with_reducible show Exists _); (refine ⟨_, ACall.of_pure (by assumption) (by rfl) ⟨rfl, rfl⟩, ?_⟩); conv => whnf) | ((with_reducible show _ ∧ _ ∧ _); (refine ⟨by omega, by omega, ?_⟩); conv => whnf) | fail)
  exact weak_to ⟨rfl, trivial⟩ rfl

/-! ### filled -/
/-- What is taken of a list, one behind the other. -/
def takeP (s : Sp) (t : Ml) (x : Px × Nat) : Ml := if putE s (putAll t) x.1 x.2 = 0 then t ++ [x] else t
def fillT (s : Sp) (l : Ml) : Ml := (l.take 200).foldl (takeP s) []
structure TI (s : Sp) (t : Ml) : Prop where
  mi : MI s (putAll t)
theorem putAll_snoc (t : Ml) (x : Px × Nat) : putAll (t ++ [x]) = addM (putAll t) x.1 x.2 := putF_snoc _ _ _
theorem MI.put {s : Sp} {l : Ml} (h : MI s l) {p : Px} {w : Nat} (hp : POk p) (hl : l.length < 65536) (he : putE s l p w = 0) : MI s (addM l p w) := by
  unfold putE at he
  cases hr : leafR s p with
  | false => rw [hr, cond_false] at he; cases he
  | true =>
    rw [hr, cond_true] at he
    by_cases ho : 4611686018427387904 - totM l < w
    · rw [if_pos ho] at he; cases he
    · refine ⟨h.sound, nodup_addM h.nodup _ _, ?_, fun q hq => ?_, ?_, fun q hq => ?_⟩
      · rw [tot_addM]; have := h.tot; omega
      · rcases mem_keys_addM.1 hq with hq | rfl
        · exact h.ok q hq
        · exact hp
      · have := addM_len p w l; omega
      · rcases mem_keys_addM.1 hq with hq | rfl
        · exact h.leaf q hq
        · exact hr
theorem putAll_len (t : Ml) : (putAll t).length ≤ t.length := by
  have := putF_len t []
  simpa using this
theorem TI.take {s : Sp} {t : Ml} (h : TI s t) {x : Px × Nat} (hx : POk x.1) (ht : t.length < 65536) : TI s (takeP s t x) := by
  unfold takeP
  by_cases he : putE s (putAll t) x.1 x.2 = 0
  · rw [if_pos he]
    refine ⟨?_⟩
    rw [putAll_snoc]
    exact h.mi.put hx (Nat.lt_of_le_of_lt (putAll_len t) ht) he
  · rw [if_neg he]; exact h
theorem takeP_len (s : Sp) (t : Ml) (x : Px × Nat) : (takeP s t x).length ≤ t.length + 1 := by
  unfold takeP
  split
  · rw [List.length_append]; exact Nat.le_refl _
  · exact Nat.le_succ _
theorem fold_len (s : Sp) : ∀ (l t : Ml), (l.foldl (takeP s) t).length ≤ t.length + l.length
  | [], _ => Nat.le_refl _
  | x :: l, t => by
    have h1 := fold_len s l (takeP s t x)
    have h2 := takeP_len s t x
    rw [List.foldl_cons, List.length_cons]; omega
theorem fold_TI {s : Sp} : ∀ {l t : Ml}, TI s t → (∀ x ∈ l, POk x.1) → t.length + l.length ≤ 65536 → TI s (l.foldl (takeP s) t)
  | [], _, h, _, _ => h
  | x :: l, t, h, ho, hl => by
    rw [List.length_cons] at hl
    have h2 := takeP_len s t x
    exact fold_TI (l := l) (h.take (ho x List.mem_cons_self) (by omega)) (fun y hy => ho y (List.mem_cons_of_mem _ hy)) (by omega)
theorem fold_snoc (s : Sp) (l t : Ml) (x : Px × Nat) : (l ++ [x]).foldl (takeP s) t = takeP s (l.foldl (takeP s) t) x := by simp
theorem fold_sub (s : Sp) : ∀ (l t : Ml), ∀ y ∈ l.foldl (takeP s) t, y ∈ t ∨ y ∈ l
  | [], _, y, h => .inl h
  | x :: l, t, y, h => by
    rw [List.foldl_cons] at h
    rcases fold_sub s l _ y h with h | h
    · unfold takeP at h
      split at h
      · rcases List.mem_append.1 h with h | h
        · exact .inl h
        · rw [List.mem_singleton.1 h]; exact .inr List.mem_cons_self
      · exact .inl h
    · exact .inr (List.mem_cons_of_mem _ h)
theorem fillT_ok {s : Sp} (hs : soundS s = true) {l : Ml} (ho : ∀ x ∈ l, POk x.1) : MI s (putAll (fillT s l)) :=
  (fold_TI (s := s) (l := l.take 200) (t := []) ⟨MI.nil hs⟩ (fun x hx => ho x (List.mem_of_mem_take hx)) (by rw [List.length_take]; simp; omega)).mi
theorem fillT_len (s : Sp) (l : Ml) : (fillT s l).length ≤ 200 := by
  have := fold_len s (l.take 200) []
  rw [List.length_take] at this
  unfold fillT
  simp only [List.length_nil] at this
  omega
theorem fill_ok (s : Sp) (hs : soundS s = true) (l : Ml) (ho : ∀ x ∈ l, POk x.1) :
    DCall P 20 [spv s, .sl (lcl l)] [] (.tup [.ptr 0 0, .sl (lcl (fillT s l))]) (MH s (putAll (fillT s l))) := by
  have q1 := new_ok s hs
  have hlc := lcl_len l
  unfold fillT
  refine DCall.of_awp tok mixed fn20 (Nat.le_of_ble_eq_true rfl) ?_
  (conv => whnf); (repeat' first | ((with_reducible refine Box.mk ?_); conv => whnf) | ((with_reducible refine And.intro (fun _ => ?_) (fun _ => ?_)) <;> conv => whnf) | ((with_reducible show AYld _ _ _ _ _); (refine AYld.of tok mixed ?_); conv => whnf) | ((with_reducible show forceH _ _); (refine (forceH_eq _ _).mpr ?_); conv => whnf) | ((with_reducible show ACall _ _ _ _ _); (refine ACall.of_pure (by assumption) (by rfl) ?_); conv => whnf) | ((with_reducible show Exists _); (refine ⟨_, ACall.of_pure (by assumption) (by rfl) ⟨rfl, rfl⟩, ?_⟩); conv => whnf) | ((with_reducible show _ ∧ _ ∧ _); (refine ⟨by omega, by omega, ?_⟩); conv => whnf) | fail)
  refine aW [] q1 rfl rfl rfl ?_
  (conv => whnf); (repeat' first | ((with_reducible refine Box.mk ?_); conv => whnf) | ((with_reducible refine And.intro (fun _ => ?_) (fun _ => ?_)) <;> conv => whnf) | ((with_reducible show AYld _ _ _ _ _); (refine AYld.of tok mixed ?_); conv => whnf) | ((with_reducible show forceH _ _); (refine (forceH_eq _ _).mpr ?_); conv => whnf) | ((with_reducible show ACall _ _ _ _ _); (refine ACall.of_pure (by assumption) (by rfl) ?_); conv => whnf) | ((with_reducible show Exists _); (refine ⟨_, ACall.of_pure (by assumption) (by rfl) ⟨rfl, rfl⟩, ?_⟩); conv => whnf) | ((with_reducible show _ ∧ _ ∧ _); (refine ⟨by omega, by omega, ?_⟩); conv => whnf) | fail)
  refine aloop (fun i : Nat => i ≤ l.length ∧ i ≤ 200) (fun i => ⟨envL [(1, .sl (lcl l)), (6, .ptr 0 0), (7, .own 2), (8, .int .i64 (i : Int))], MH s (putAll ((l.take i).foldl (takeP s) [])) ++ [Ob.row 46 13 (lcl ((l.take i).foldl (takeP s) []))]⟩) (fun i => l.length - i) 0 ⟨Nat.zero_le _, Nat.zero_le _⟩ ?_ ?_
  · exact (weak_ren_to (l := [(1, .sl (lcl l)), (6, .ptr 0 0), (7, .nils), (8, .int .i64 0)]) (H' := MH s []) [(1, true), (2, true)] rfl rfl rfl ⟨rfl, rfl, rfl, rfl, trivial⟩).trans
      (weak_nilrow (s := ⟨envL [(1, .sl (lcl l)), (6, .ptr 0 0), (7, .nils), (8, .int .i64 0)], MH s []⟩) (l := [(1, .sl (lcl l)), (6, .ptr 0 0), (7, .own 2), (8, .int .i64 0)]) (H' := MH s []) 46 13 (by decide) ⟨.inl rfl, .inl rfl, .inr ⟨rfl, rfl⟩, .inl rfl, trivial⟩ ⟨.inl rfl, .inl rfl, trivial⟩)
  rintro i ⟨hi, hi2⟩
  have htl : ((l.take i).foldl (takeP s) []).length ≤ 200 := by
    have := fold_len s (l.take i) []
    rw [List.length_take] at this
    simp only [List.length_nil] at this
    omega
  have hTI : TI s ((l.take i).foldl (takeP s) []) := fold_TI ⟨MI.nil hs⟩ (fun x hx => ho x (List.mem_of_mem_take hx)) (by rw [List.length_take]; simp; omega)
  have fin : ¬ (i < l.length ∧ i < 200) → (l.take i) = l.take 200 := fun h => by
    rcases Nat.lt_or_ge i l.length with h1 | h1
    · have : i = 200 := by omega
      rw [this]
    · rw [List.take_of_length_le h1, List.take_of_length_le (by omega)]
  (conv => whnf); (repeat' first | ((with_reducible refine Box.mk ?_); conv => whnf) | ((with_reducible refine And.intro (fun _ => ?_) (fun _ => ?_)) <;> conv => whnf) | ((with_reducible show AYld _ _ _ _ _); (refine AYld.of tok mixed ?_); conv => whnf) | ((with_reducible show forceH _ _); (refine (forceH_eq _ _).mpr ?_); conv => whnf) | ((with_reducible show ACall _ _ _ _ _); (refine ACall.of_pure (by assumption) (by rfl) ?_); conv => whnf) | ((with_reducible show Exists _); (refine ⟨_, ACall.of_pure (by assumption) (by rfl) ⟨rfl, rfl⟩, ?_⟩); conv => whnf) | ((with_reducible show _ ∧ _ ∧ _); (refine ⟨by omega, by omega, ?_⟩); conv => whnf) | fail)
  · rename_i h1 h2
    have h1 : i < l.length := by rw [hlc] at h1; omega
    have h2 : i < 200 := by have h2 : (i : Int) < 200 := h2; omega
    have hx := List.getElem?_eq_getElem h1
    have hst : (l.take (i + 1)).foldl (takeP s) [] = takeP s ((l.take i).foldl (takeP s) []) l[i] := by
      rw [List.take_add_one, hx]; exact fold_snoc _ _ _ _
    have hxo : POk l[i].1 := ho _ (List.mem_of_getElem? hx)
    generalize l[i] = x at *
    generalize (l.take i).foldl (takeP s) [] = t at *
    have q2 := put_ok s (putAll t) hTI.mi x.1 hxo x.2
    have hlt := lcl_len t
    unfold putM at q2
    by_cases he : putE s (putAll t) x.1 x.2 = 0
    · rw [show takeP s t x = t ++ [x] from if_pos he] at hst
      rw [if_pos he] at q2
      rw [he, ← putAll_snoc, ← hst] at q2
      have hst2 : lcl ((l.take (i + 1)).foldl (takeP s) []) = lcl t ++ [lcs x] := by rw [hst, lcl_snoc]
      refine ⟨[(2011, [])], by kernel_rfl, ?_⟩
      (conv => whnf); (repeat' first | ((with_reducible refine Box.mk ?_); conv => whnf) | ((with_reducible refine And.intro (fun _ => ?_) (fun _ => ?_)) <;> conv => whnf) | ((with_reducible show AYld _ _ _ _ _); (refine AYld.of tok mixed ?_); conv => whnf) | ((with_reducible show forceH _ _); (refine (forceH_eq _ _).mpr ?_); conv => whnf) | ((with_reducible show ACall _ _ _ _ _); (refine ACall.of_pure (by assumption) (by rfl) ?_); conv => whnf) | ((with_reducible show Exists _); (refine ⟨_, ACall.of_pure (by assumption) (by rfl) ⟨rfl, rfl⟩, ?_⟩); conv => whnf) | ((with_reducible show _ ∧ _ ∧ _); (refine ⟨by omega, by omega, ?_⟩); conv => whnf) | fail)
      refine ⟨by omega, lcs x, by rw [Int.toNat_natCast, lcl_get, hx]; rfl, rfl, ?_⟩
      (conv => whnf); (repeat' first | ((with_reducible refine Box.mk ?_); conv => whnf) | ((with_reducible refine And.intro (fun _ => ?_) (fun _ => ?_)) <;> conv => whnf) | ((with_reducible show AYld _ _ _ _ _); (refine AYld.of tok mixed ?_); conv => whnf) | ((with_reducible show forceH _ _); (refine (forceH_eq _ _).mpr ?_); conv => whnf) | ((with_reducible show ACall _ _ _ _ _); (refine ACall.of_pure (by assumption) (by rfl) ?_); conv => whnf) | ((with_reducible show Exists _); (refine ⟨_, ACall.of_pure (by assumption) (by rfl) ⟨rfl, rfl⟩, ?_⟩); conv => whnf) | ((with_reducible show _ ∧ _ ∧ _); (refine ⟨by omega, by omega, ?_⟩); conv => whnf) | fail)
      refine ⟨by omega, lcs x, by rw [Int.toNat_natCast, lcl_get, hx]; rfl, rfl, ?_⟩
      (conv => whnf); (repeat' first | ((with_reducible refine Box.mk ?_); conv => whnf) | ((with_reducible refine And.intro (fun _ => ?_) (fun _ => ?_)) <;> conv => whnf) | ((with_reducible show AYld _ _ _ _ _); (refine AYld.of tok mixed ?_); conv => whnf) | ((with_reducible show forceH _ _); (refine (forceH_eq _ _).mpr ?_); conv => whnf) | ((with_reducible show ACall _ _ _ _ _); (refine ACall.of_pure (by assumption) (by rfl) ?_); conv => whnf) | ((with_reducible show Exists _); (refine ⟨_, ACall.of_pure (by assumption) (by rfl) ⟨rfl, rfl⟩, ?_⟩); conv => whnf) | ((with_reducible show _ ∧ _ ∧ _); (refine ⟨by omega, by omega, ?_⟩); conv => whnf) | fail)
      refine aDw [0, 1] q2 rfl rfl rfl ?_
      (conv => whnf); (repeat' first | ((with_reducible refine Box.mk ?_); conv => whnf) | ((with_reducible refine And.intro (fun _ => ?_) (fun _ => ?_)) <;> conv => whnf) | ((with_reducible show AYld _ _ _ _ _); (refine AYld.of tok mixed ?_); conv => whnf) | ((with_reducible show forceH _ _); (refine (forceH_eq _ _).mpr ?_); conv => whnf) | ((with_reducible show ACall _ _ _ _ _); (refine ACall.of_pure (by assumption) (by rfl) ?_); conv => whnf) | ((with_reducible show Exists _); (refine ⟨_, ACall.of_pure (by assumption) (by rfl) ⟨rfl, rfl⟩, ?_⟩); conv => whnf) | ((with_reducible show _ ∧ _ ∧ _); (refine ⟨by omega, by omega, ?_⟩); conv => whnf) | fail)
      rotate_left
      · rename_i h; exact absurd rfl h
      refine ⟨by omega, lcs x, by rw [Int.toNat_natCast, lcl_get, hx]; rfl, rfl, ?_⟩
      (conv => whnf); (repeat' first | ((with_reducible refine Box.mk ?_); conv => whnf) | ((with_reducible refine And.intro (fun _ => ?_) (fun _ => ?_)) <;> conv => whnf) | ((with_reducible show AYld _ _ _ _ _); (refine AYld.of tok mixed ?_); conv => whnf) | ((with_reducible show forceH _ _); (refine (forceH_eq _ _).mpr ?_); conv => whnf) | ((with_reducible show ACall _ _ _ _ _); (refine ACall.of_pure (by assumption) (by rfl) ?_); conv => whnf) | ((with_reducible show Exists _); (refine ⟨_, ACall.of_pure (by assumption) (by rfl) ⟨rfl, rfl⟩, ?_⟩); conv => whnf) | ((with_reducible show _ ∧ _ ∧ _); (refine ⟨by omega, by omega, ?_⟩); conv => whnf) | fail)
      refine ⟨fun c hc => by rw [List.mem_singleton.1 hc]; exact ⟨rfl, rfl⟩, by rw [hlt]; show (_ + 1) * 120 ≤ _; omega, by rw [hlt]; show _ + 1 ≤ _; omega, ?_⟩
      (conv => whnf); (repeat' first | ((with_reducible refine Box.mk ?_); conv => whnf) | ((with_reducible refine And.intro (fun _ => ?_) (fun _ => ?_)) <;> conv => whnf) | ((with_reducible show AYld _ _ _ _ _); (refine AYld.of tok mixed ?_); conv => whnf) | ((with_reducible show forceH _ _); (refine (forceH_eq _ _).mpr ?_); conv => whnf) | ((with_reducible show ACall _ _ _ _ _); (refine ACall.of_pure (by assumption) (by rfl) ?_); conv => whnf) | ((with_reducible show Exists _); (refine ⟨_, ACall.of_pure (by assumption) (by rfl) ⟨rfl, rfl⟩, ?_⟩); conv => whnf) | ((with_reducible show _ ∧ _ ∧ _); (refine ⟨by omega, by omega, ?_⟩); conv => whnf) | fail)
      refine ⟨i + 1, ⟨h1, h2⟩, by omega, weak_ren_to [(0, true), (1, true), (4, true)] rfl rfl ?_ ⟨rfl, rfl, rfl, wrap_nat (m := 1) (by omega), trivial⟩⟩
      rw [hst2]
      rfl
    · rw [show takeP s t x = t from if_neg he] at hst
      rw [if_neg he] at q2
      refine ⟨[(2011, [])], by kernel_rfl, ?_⟩
      (conv => whnf); (repeat' first | ((with_reducible refine Box.mk ?_); conv => whnf) | ((with_reducible refine And.intro (fun _ => ?_) (fun _ => ?_)) <;> conv => whnf) | ((with_reducible show AYld _ _ _ _ _); (refine AYld.of tok mixed ?_); conv => whnf) | ((with_reducible show forceH _ _); (refine (forceH_eq _ _).mpr ?_); conv => whnf) | ((with_reducible show ACall _ _ _ _ _); (refine ACall.of_pure (by assumption) (by rfl) ?_); conv => whnf) | ((with_reducible show Exists _); (refine ⟨_, ACall.of_pure (by assumption) (by rfl) ⟨rfl, rfl⟩, ?_⟩); conv => whnf) | ((with_reducible show _ ∧ _ ∧ _); (refine ⟨by omega, by omega, ?_⟩); conv => whnf) | fail)
      refine ⟨by omega, lcs x, by rw [Int.toNat_natCast, lcl_get, hx]; rfl, rfl, ?_⟩
      (conv => whnf); (repeat' first | ((with_reducible refine Box.mk ?_); conv => whnf) | ((with_reducible refine And.intro (fun _ => ?_) (fun _ => ?_)) <;> conv => whnf) | ((with_reducible show AYld _ _ _ _ _); (refine AYld.of tok mixed ?_); conv => whnf) | ((with_reducible show forceH _ _); (refine (forceH_eq _ _).mpr ?_); conv => whnf) | ((with_reducible show ACall _ _ _ _ _); (refine ACall.of_pure (by assumption) (by rfl) ?_); conv => whnf) | ((with_reducible show Exists _); (refine ⟨_, ACall.of_pure (by assumption) (by rfl) ⟨rfl, rfl⟩, ?_⟩); conv => whnf) | ((with_reducible show _ ∧ _ ∧ _); (refine ⟨by omega, by omega, ?_⟩); conv => whnf) | fail)
      refine ⟨by omega, lcs x, by rw [Int.toNat_natCast, lcl_get, hx]; rfl, rfl, ?_⟩
      (conv => whnf); (repeat' first | ((with_reducible refine Box.mk ?_); conv => whnf) | ((with_reducible refine And.intro (fun _ => ?_) (fun _ => ?_)) <;> conv => whnf) | ((with_reducible show AYld _ _ _ _ _); (refine AYld.of tok mixed ?_); conv => whnf) | ((with_reducible show forceH _ _); (refine (forceH_eq _ _).mpr ?_); conv => whnf) | ((with_reducible show ACall _ _ _ _ _); (refine ACall.of_pure (by assumption) (by rfl) ?_); conv => whnf) | ((with_reducible show Exists _); (refine ⟨_, ACall.of_pure (by assumption) (by rfl) ⟨rfl, rfl⟩, ?_⟩); conv => whnf) | ((with_reducible show _ ∧ _ ∧ _); (refine ⟨by omega, by omega, ?_⟩); conv => whnf) | fail)
      refine aDw [0, 1] q2 rfl rfl rfl ?_
      (conv => whnf); (repeat' first | ((with_reducible refine Box.mk ?_); conv => whnf) | ((with_reducible refine And.intro (fun _ => ?_) (fun _ => ?_)) <;> conv => whnf) | ((with_reducible show AYld _ _ _ _ _); (refine AYld.of tok mixed ?_); conv => whnf) | ((with_reducible show forceH _ _); (refine (forceH_eq _ _).mpr ?_); conv => whnf) | ((with_reducible show ACall _ _ _ _ _); (refine ACall.of_pure (by assumption) (by rfl) ?_); conv => whnf) | ((with_reducible show Exists _); (refine ⟨_, ACall.of_pure (by assumption) (by rfl) ⟨rfl, rfl⟩, ?_⟩); conv => whnf) | ((with_reducible show _ ∧ _ ∧ _); (refine ⟨by omega, by omega, ?_⟩); conv => whnf) | fail)
      · rename_i h; exact absurd h he
      refine ⟨i + 1, ⟨h1, h2⟩, by omega, weak_ren_to [(0, true), (1, true), (2, true)] rfl rfl ?_ ⟨rfl, rfl, rfl, wrap_nat (m := 1) (by omega), trivial⟩⟩
      rw [hst]
      rfl
  · rename_i h1 h2
    have h2 : ¬ (i : Int) < 200 := h2
    rw [← fin (by omega)]
    exact weak_cr 2 [(0, true), (1, true)] rfl rfl rfl rfl rfl
  · rename_i h1
    rw [hlc] at h1
    rw [← fin (by omega)]
    exact weak_cr 2 [(0, true), (1, true)] rfl rfl rfl rfl rfl
theorem fill_no (s : Sp) (hs : soundS s = false) (l : Ml) :
    PCall P 20 [spv s, .sl (lcl l)] (.tup [.nilp, .nils]) := by
  have q1 := new_nil s hs
  have hlc := lcl_len l
  refine PCall.of_awp tok mixed fn20 (Nat.le_of_ble_eq_true rfl) ?_
  (conv => whnf); (repeat' first | ((with_reducible refine Box.mk ?_); conv => whnf) | ((with_reducible refine And.intro (fun _ => ?_) (fun _ => ?_)) <;> conv => whnf) | ((with_reducible show AYld _ _ _ _ _); (refine AYld.of tok mixed ?_); conv => whnf) | ((with_reducible show forceH _ _); (refine (forceH_eq _ _).mpr ?_); conv => whnf) | ((with_reducible show ACall _ _ _ _ _); (refine ACall.of_pure (by assumption) (by rfl) ?_); conv => whnf) | ((with_reducible show Exists _); (refine ⟨_, ACall.of_pure (by assumption) (by rfl) ⟨rfl, rfl⟩, ?_⟩); conv => whnf) | ((with_reducible show _ ∧ _ ∧ _); (refine ⟨by omega, by omega, ?_⟩); conv => whnf) | fail)
  refine aloop (fun i : Nat => i ≤ l.length) (fun i => ⟨envL [(1, .sl (lcl l)), (6, .nilp), (7, .nils), (8, .int .i64 (i : Int))], []⟩) (fun i => l.length - i) 0 (Nat.zero_le _) (weak_ren_to [] rfl rfl rfl ⟨rfl, rfl, rfl, rfl, trivial⟩) ?_
  intro i hi
  (conv => whnf); (repeat' first | ((with_reducible refine Box.mk ?_); conv => whnf) | ((with_reducible refine And.intro (fun _ => ?_) (fun _ => ?_)) <;> conv => whnf) | ((with_reducible show AYld _ _ _ _ _); (refine AYld.of tok mixed ?_); conv => whnf) | ((with_reducible show forceH _ _); (refine (forceH_eq _ _).mpr ?_); conv => whnf) | ((with_reducible show ACall _ _ _ _ _); (refine ACall.of_pure (by assumption) (by rfl) ?_); conv => whnf) | ((with_reducible show Exists _); (refine ⟨_, ACall.of_pure (by assumption) (by rfl) ⟨rfl, rfl⟩, ?_⟩); conv => whnf) | ((with_reducible show _ ∧ _ ∧ _); (refine ⟨by omega, by omega, ?_⟩); conv => whnf) | fail)
  · rename_i h1 h2
    have h1 : i < l.length := by rw [hlc] at h1; omega
    have hx := List.getElem?_eq_getElem h1
    generalize l[i] = x at *
    have q2 := put_nil x.1 x.2
    refine ⟨[], by kernel_rfl, ?_⟩
    (conv => whnf); (repeat' first | ((with_reducible refine Box.mk ?_); conv => whnf) | ((with_reducible refine And.intro (fun _ => ?_) (fun _ => ?_)) <;> conv => whnf) | ((with_reducible show AYld _ _ _ _ _); (refine AYld.of tok mixed ?_); conv => whnf) | ((with_reducible show forceH _ _); (refine (forceH_eq _ _).mpr ?_); conv => whnf) | ((with_reducible show ACall _ _ _ _ _); (refine ACall.of_pure (by assumption) (by rfl) ?_); conv => whnf) | ((with_reducible show Exists _); (refine ⟨_, ACall.of_pure (by assumption) (by rfl) ⟨rfl, rfl⟩, ?_⟩); conv => whnf) | ((with_reducible show _ ∧ _ ∧ _); (refine ⟨by omega, by omega, ?_⟩); conv => whnf) | fail)
    refine ⟨by omega, lcs x, by rw [Int.toNat_natCast, lcl_get, hx]; rfl, rfl, ?_⟩
    (conv => whnf); (repeat' first | ((with_reducible refine Box.mk ?_); conv => whnf) | ((with_reducible refine And.intro (fun _ => ?_) (fun _ => ?_)) <;> conv => whnf) | ((with_reducible show AYld _ _ _ _ _); (refine AYld.of tok mixed ?_); conv => whnf) | ((with_reducible show forceH _ _); (refine (forceH_eq _ _).mpr ?_); conv => whnf) | ((with_reducible show ACall _ _ _ _ _); (refine ACall.of_pure (by assumption) (by rfl) ?_); conv => whnf) | ((with_reducible show Exists _); (refine ⟨_, ACall.of_pure (by assumption) (by rfl) ⟨rfl, rfl⟩, ?_⟩); conv => whnf) | ((with_reducible show _ ∧ _ ∧ _); (refine ⟨by omega, by omega, ?_⟩); conv => whnf) | fail)
    refine ⟨by omega, lcs x, by rw [Int.toNat_natCast, lcl_get, hx]; rfl, rfl, ?_⟩
    (conv => whnf); (repeat' first | ((with_reducible refine Box.mk ?_); conv => whnf) | ((with_reducible refine And.intro (fun _ => ?_) (fun _ => ?_)) <;> conv => whnf) | ((with_reducible show AYld _ _ _ _ _); (refine AYld.of tok mixed ?_); conv => whnf) | ((with_reducible show forceH _ _); (refine (forceH_eq _ _).mpr ?_); conv => whnf) | ((with_reducible show ACall _ _ _ _ _); (refine ACall.of_pure (by assumption) (by rfl) ?_); conv => whnf) | ((with_reducible show Exists _); (refine ⟨_, ACall.of_pure (by assumption) (by rfl) ⟨rfl, rfl⟩, ?_⟩); conv => whnf) | ((with_reducible show _ ∧ _ ∧ _); (refine ⟨by omega, by omega, ?_⟩); conv => whnf) | fail)
    · rename_i h; exact absurd h (by decide)
    · exact ⟨i + 1, h1, by omega, weak_to ⟨rfl, rfl, rfl, wrap_nat (m := 1) (by have h2 : (i : Int) < 200 := h2; omega), trivial⟩ rfl⟩
  all_goals rfl
end Go.Proofs.YtgaohmfmomeflaaGreatDoor
end

section
/- prefix: what must come of fixed calls. -/
namespace Go.Proofs.YtgaohmfmomeflaaGreatDoor
open Go.Ve

end Go.Proofs.YtgaohmfmomeflaaGreatDoor
end

section
/- prefix: the outright statements' walks. -/
namespace Go.Proofs.YtgaohmfmomeflaaGreatDoor
open Go.Ve

theorem zero_ok : POk zeroP := ⟨Nat.two_pow_pos 128, Nat.two_pow_pos 128, Nat.zero_le _, Nat.zero_le _⟩
end Go.Proofs.YtgaohmfmomeflaaGreatDoor
end

section
/- model, the laws: what must come of fixed calls. -/
namespace Go.Proofs.YtgaohmfmomeflaaGreatDoor
open Go.Ve

theorem loadsM_self {l : Ml} (h : Ord cmpP (keysM l)) (hp : ∀ x ∈ l, 0 < x.2) : loadsM l = l := by
  have hn := h.nodup to_cmpP
  have e : heavyK l = keysM l := (heavyK_ord hn).ext to_cmpP h fun p => by
    rw [heavyK_mem]
    refine ⟨look_key, fun hk => ?_⟩
    obtain ⟨x, hx, rfl⟩ := List.mem_map.1 hk
    rw [look_mem hn hx]; exact hp x hx
  unfold loadsM
  rw [e, keysM, List.map_map]
  refine (List.map_congr_left fun x hx => ?_).trans (List.map_id l)
  show (x.1, look l x.1) = x
  rw [look_mem hn hx]
def sA : Sp := ⟨1, ⟨1, 1, 16⟩, zeroD⟩
def lfA (a : Nat) : Px := ⟨0, 0, ⟨1, 32, a * 2 ^ 96, []⟩, zeroK⟩
def pA : Px := lfA 167772161
def pB : Px := lfA 167772162
def mA : Px := ⟨1, 0, ⟨1, 16, 720575940379279360 * H64, []⟩, zeroK⟩
theorem lfA_ok {a : Nat} (h : a < 4294967296) : POk (lfA a) := ⟨by show a * 2 ^ 96 < 2 ^ 128; omega, by show (0 : Nat) < 2 ^ 128; decide, Nat.zero_le _, Nat.zero_le _⟩
theorem mA_ok : POk mA := ⟨by decide, by decide, Nat.zero_le _, Nat.zero_le _⟩
theorem leaf1 : PCall P 40 [.int .u64 167772161] (pxv pA) := by
  refine PCall.of_awp tok mixed fn40 (Nat.le_of_ble_eq_true rfl) ?_
  (conv => whnf); (repeat' first | ((with_reducible refine Box.mk ?_); conv => whnf) | ((with_reducible refine And.intro (fun _ => ?_) (fun _ => ?_)) <;> conv => whnf) | ((with_reducible show AYld _ _ _ _ _); (refine AYld.of tok mixed ?_); conv => whnf) | ((with_reducible show forceH _ _); (refine (forceH_eq _ _).mpr ?_); conv => whnf) | ((with_reducible show ACall _ _ _ _ _); (refine ACall.of_pure (by assumption) (by rfl) ?_); conv => whnf) | ((with_reducible show Exists _); (refine ⟨_, ACall.of_pure (by assumption) (by rfl) ⟨rfl, rfl⟩, ?_⟩); conv => whnf) | ((with_reducible show ∃ L, drawR L _ = true ∧ _); (refine ⟨[], by kernel_rfl, ?_⟩); conv => whnf) | ((with_reducible show _ ∧ _ ∧ _); (refine ⟨by omega, by omega, ?_⟩); conv => whnf) | fail)
  refine ⟨by decide, ?_⟩
  (conv => whnf); (repeat' first | ((with_reducible refine Box.mk ?_); conv => whnf) | ((with_reducible refine And.intro (fun _ => ?_) (fun _ => ?_)) <;> conv => whnf) | ((with_reducible show AYld _ _ _ _ _); (refine AYld.of tok mixed ?_); conv => whnf) | ((with_reducible show forceH _ _); (refine (forceH_eq _ _).mpr ?_); conv => whnf) | ((with_reducible show ACall _ _ _ _ _); (refine ACall.of_pure (by assumption) (by rfl) ?_); conv => whnf) | ((with_reducible show Exists _); (refine ⟨_, ACall.of_pure (by assumption) (by rfl) ⟨rfl, rfl⟩, ?_⟩); conv => whnf) | ((with_reducible show ∃ L, drawR L _ = true ∧ _); (refine ⟨[], by kernel_rfl, ?_⟩); conv => whnf) | ((with_reducible show _ ∧ _ ∧ _); (refine ⟨by omega, by omega, ?_⟩); conv => whnf) | fail)
  rfl
theorem leaf2 : PCall P 40 [.int .u64 167772162] (pxv pB) := by
  refine PCall.of_awp tok mixed fn40 (Nat.le_of_ble_eq_true rfl) ?_
  (conv => whnf); (repeat' first | ((with_reducible refine Box.mk ?_); conv => whnf) | ((with_reducible refine And.intro (fun _ => ?_) (fun _ => ?_)) <;> conv => whnf) | ((with_reducible show AYld _ _ _ _ _); (refine AYld.of tok mixed ?_); conv => whnf) | ((with_reducible show forceH _ _); (refine (forceH_eq _ _).mpr ?_); conv => whnf) | ((with_reducible show ACall _ _ _ _ _); (refine ACall.of_pure (by assumption) (by rfl) ?_); conv => whnf) | ((with_reducible show Exists _); (refine ⟨_, ACall.of_pure (by assumption) (by rfl) ⟨rfl, rfl⟩, ?_⟩); conv => whnf) | ((with_reducible show ∃ L, drawR L _ = true ∧ _); (refine ⟨[], by kernel_rfl, ?_⟩); conv => whnf) | ((with_reducible show _ ∧ _ ∧ _); (refine ⟨by omega, by omega, ?_⟩); conv => whnf) | fail)
  refine ⟨by decide, ?_⟩
  (conv => whnf); (repeat' first | ((with_reducible refine Box.mk ?_); conv => whnf) | ((with_reducible refine And.intro (fun _ => ?_) (fun _ => ?_)) <;> conv => whnf) | ((with_reducible show AYld _ _ _ _ _); (refine AYld.of tok mixed ?_); conv => whnf) | ((with_reducible show forceH _ _); (refine (forceH_eq _ _).mpr ?_); conv => whnf) | ((with_reducible show ACall _ _ _ _ _); (refine ACall.of_pure (by assumption) (by rfl) ?_); conv => whnf) | ((with_reducible show Exists _); (refine ⟨_, ACall.of_pure (by assumption) (by rfl) ⟨rfl, rfl⟩, ?_⟩); conv => whnf) | ((with_reducible show ∃ L, drawR L _ = true ∧ _); (refine ⟨[], by kernel_rfl, ?_⟩); conv => whnf) | ((with_reducible show _ ∧ _ ∧ _); (refine ⟨by omega, by omega, ?_⟩); conv => whnf) | fail)
  rfl
theorem leaf3 : PCall P 40 [.int .u64 1] (pxv (lfA 1)) := by
  refine PCall.of_awp tok mixed fn40 (Nat.le_of_ble_eq_true rfl) ?_
  (conv => whnf); (repeat' first | ((with_reducible refine Box.mk ?_); conv => whnf) | ((with_reducible refine And.intro (fun _ => ?_) (fun _ => ?_)) <;> conv => whnf) | ((with_reducible show AYld _ _ _ _ _); (refine AYld.of tok mixed ?_); conv => whnf) | ((with_reducible show forceH _ _); (refine (forceH_eq _ _).mpr ?_); conv => whnf) | ((with_reducible show ACall _ _ _ _ _); (refine ACall.of_pure (by assumption) (by rfl) ?_); conv => whnf) | ((with_reducible show Exists _); (refine ⟨_, ACall.of_pure (by assumption) (by rfl) ⟨rfl, rfl⟩, ?_⟩); conv => whnf) | ((with_reducible show ∃ L, drawR L _ = true ∧ _); (refine ⟨[], by kernel_rfl, ?_⟩); conv => whnf) | ((with_reducible show _ ∧ _ ∧ _); (refine ⟨by omega, by omega, ?_⟩); conv => whnf) | fail)
  refine ⟨by decide, ?_⟩
  (conv => whnf); (repeat' first | ((with_reducible refine Box.mk ?_); conv => whnf) | ((with_reducible refine And.intro (fun _ => ?_) (fun _ => ?_)) <;> conv => whnf) | ((with_reducible show AYld _ _ _ _ _); (refine AYld.of tok mixed ?_); conv => whnf) | ((with_reducible show forceH _ _); (refine (forceH_eq _ _).mpr ?_); conv => whnf) | ((with_reducible show ACall _ _ _ _ _); (refine ACall.of_pure (by assumption) (by rfl) ?_); conv => whnf) | ((with_reducible show Exists _); (refine ⟨_, ACall.of_pure (by assumption) (by rfl) ⟨rfl, rfl⟩, ?_⟩); conv => whnf) | ((with_reducible show ∃ L, drawR L _ = true ∧ _); (refine ⟨[], by kernel_rfl, ?_⟩); conv => whnf) | ((with_reducible show _ ∧ _ ∧ _); (refine ⟨by omega, by omega, ?_⟩); conv => whnf) | fail)
  rfl
def l1A : Ml := [(pA, 5)]
def l2A : Ml := [(pA, 5), (pB, 3)]
def l3A : Ml := [(pA, 10), (pB, 6)]
theorem sA_sound : soundS sA = true := by kernel_rfl
theorem mi1 : MI sA l1A := (MI.nil sA_sound).put (p := pA) (w := 5) (lfA_ok (by decide)) (by decide) (by kernel_rfl)
theorem mi2 : MI sA l2A := mi1.put (p := pB) (w := 3) (lfA_ok (by decide)) (by decide) (by kernel_rfl)
theorem l2A_loads : loadsM l2A = l2A := by
  refine loadsM_self ?_ (by decide)
  show List.Pairwise _ [pA, pB]
  refine List.Pairwise.cons (fun y hy => ?_) (List.pairwise_singleton _ _)
  rw [List.mem_singleton.1 hy]
  have : cmpP pA pB = -1 := by kernel_rfl
  rw [this]; decide
theorem l2A_ov : (ovM sA l2A).length = 4 := by
  have hp : POk pA := lfA_ok (by decide)
  have hq : POk pB := lfA_ok (by decide)
  have e : ovM sA l2A = [pA, pB, mA, topP sA] := by
    refine (ovM_ord sA l2A).ext to_hgtP ?_ fun q => ?_
    · have h1 : hgtP pA pB = -1 := by kernel_rfl
      have h2 : hgtP pA mA = -1 := by kernel_rfl
      have h3 : hgtP pA (topP sA) = -1 := by kernel_rfl
      have h4 : hgtP pB mA = -1 := by kernel_rfl
      have h5 : hgtP pB (topP sA) = -1 := by kernel_rfl
      have h6 : hgtP mA (topP sA) = -1 := by kernel_rfl
      refine .cons (fun y hy => ?_) (.cons (fun y hy => ?_) (.cons (fun y hy => ?_) (List.pairwise_singleton _ _)))
      · simp only [List.mem_cons, List.not_mem_nil, or_false] at hy
        rcases hy with rfl | rfl | rfl
        · rw [h1]; decide
        · rw [h2]; decide
        · rw [h3]; decide
      · simp only [List.mem_cons, List.not_mem_nil, or_false] at hy
        rcases hy with rfl | rfl
        · rw [h4]; decide
        · rw [h5]; decide
      · rw [List.mem_singleton.1 hy, h6]; decide
    · rw [ovM_mem mi2.ok mi2.nodup, sumF_pos]
      have a1 : allP sA pA = [pA, mA, topP sA] := by kernel_rfl
      have a2 : allP sA pB = [pB, mA, topP sA] := by kernel_rfl
      have m1 := allP_mem (s := sA) (x := q) hp
      have m2 := allP_mem (s := sA) (x := q) hq
      rw [a1] at m1
      rw [a2] at m2
      simp only [List.mem_cons, List.not_mem_nil, or_false] at m1 m2 ⊢
      constructor
      · rintro ⟨x, hx, hx2, _⟩
        rcases (show x = (pA, 5) ∨ x = (pB, 3) by simpa [l2A] using hx) with rfl | hx
        · rcases m1.2 hx2 with h | h | h
          · exact .inl h
          · exact .inr (.inr (.inl h))
          · exact .inr (.inr (.inr h))
        · subst hx
          rcases m2.2 hx2 with h | h | h
          · exact .inr (.inl h)
          · exact .inr (.inr (.inl h))
          · exact .inr (.inr (.inr h))
      · intro h
        rcases h with h | h | h | h
        · exact ⟨(pA, 5), .head _, m1.1 (.inl h), by decide⟩
        · exact ⟨(pB, 3), .tail _ (.head _), m2.1 (.inl h), by decide⟩
        · exact ⟨(pA, 5), .head _, m1.1 (.inr (.inl h)), by decide⟩
        · exact ⟨(pA, 5), .head _, m1.1 (.inr (.inr h)), by decide⟩
  rw [e]; rfl
theorem l2A_self : putF l2A (loadsM l2A) = l3A := by rw [l2A_loads]; kernel_rfl
theorem dEq {f : FuncId} {args : List AV} {H H0 H1 : Hp} {r r' : AV} (h : DCall P f args H r H0) (e : r = r') (e2 : H0 = H1) : DCall P f args H r' H1 := by subst e; subst e2; exact h
theorem alive35_ok : PCall P 12 [] (.bool true) := by
  have c0 := new_ok sA sA_sound
  have c1 := leaf1
  have c2 := leaf2
  have c3 := leaf3
  have d1 := dEq (put_ok sA [] (MI.nil sA_sound) pA (lfA_ok (by decide)) 5) (show _ = AV.int .i64 0 by kernel_rfl) (show _ = MH sA l1A by kernel_rfl)
  have d2 := dEq (put_ok sA l1A mi1 pB (lfA_ok (by decide)) 3) (show _ = AV.int .i64 0 by kernel_rfl) (show _ = MH sA l2A by kernel_rfl)
  have d3 := dEq (put_ok sA l2A mi2 zeroP zero_ok 1) (show _ = AV.int .i64 1 by kernel_rfl) (show _ = MH sA l2A by kernel_rfl)
  have d4 := dEq (put_ok sA l2A mi2 (lfA 1) (lfA_ok (by decide)) 4611686018427387904) (show _ = AV.int .i64 13 by kernel_rfl) (show _ = MH sA l2A by kernel_rfl)
  have d5 := loads_ok sA l2A mi2
  rw [l2A_loads] at d5
  have d6 := mOver_ok sA l2A mi2
  have d7 := dEq (weight_ok sA l2A mi2 mA mA_ok) (show _ = AV.int .u64 8 by kernel_rfl) rfl
  have d8 := dEq (join_self sA l2A mi2 (by decide)) (show _ = AV.int .i64 0 from rfl) (show _ = MHat 0 sA l3A by rw [l2A_self])
  have d9 := dEq (total_ok sA l3A) (show _ = AV.int .u64 16 by kernel_rfl) rfl
  have mi3 : MI sA l3A := ⟨sA_sound, mi2.nodup, by decide, mi2.ok, by decide, mi2.leaf⟩
  have e1 := dEq (weight_ok sA l3A mi3 mA mA_ok) (show _ = AV.int .u64 16 by kernel_rfl) rfl
  have e2 := space_ok sA l3A
  have e3 := new_nil zeroS (by kernel_rfl)
  have e4 := put_nil mA 1
  have e5 := join_nil sA l3A
  have e6 := weight_nil mA
  have hov := l2A_ov
  generalize ovM sA l2A = ov at *
  have hoc := pcl_len ov
  refine PCall.of_awp tok mixed fn12 (Nat.le_of_ble_eq_true rfl) ?_
  (conv => whnf); (repeat' first | ((with_reducible refine Box.mk ?_); conv => whnf) | ((with_reducible refine And.intro (fun _ => ?_) (fun _ => ?_)) <;> conv => whnf) | ((with_reducible show AYld _ _ _ _ _); (refine AYld.of tok mixed ?_); conv => whnf) | ((with_reducible show forceH _ _); (refine (forceH_eq _ _).mpr ?_); conv => whnf) | ((with_reducible show ACall _ _ _ _ _); (refine ACall.of_pure (by assumption) (by rfl) ?_); conv => whnf) | ((with_reducible show Exists _); (refine ⟨_, ACall.of_pure (by assumption) (by rfl) ⟨rfl, rfl⟩, ?_⟩); conv => whnf) | ((with_reducible show _ ∧ _ ∧ _); (refine ⟨by omega, by omega, ?_⟩); conv => whnf) | fail)
  refine aW [] c0 rfl rfl rfl ?_
  (conv => whnf); (repeat' first | ((with_reducible refine Box.mk ?_); conv => whnf) | ((with_reducible refine And.intro (fun _ => ?_) (fun _ => ?_)) <;> conv => whnf) | ((with_reducible show AYld _ _ _ _ _); (refine AYld.of tok mixed ?_); conv => whnf) | ((with_reducible show forceH _ _); (refine (forceH_eq _ _).mpr ?_); conv => whnf) | ((with_reducible show ACall _ _ _ _ _); (refine ACall.of_pure (by assumption) (by rfl) ?_); conv => whnf) | ((with_reducible show Exists _); (refine ⟨_, ACall.of_pure (by assumption) (by rfl) ⟨rfl, rfl⟩, ?_⟩); conv => whnf) | ((with_reducible show _ ∧ _ ∧ _); (refine ⟨by omega, by omega, ?_⟩); conv => whnf) | fail)
  · contradiction
  refine aW [1, 2] d1 rfl rfl rfl ?_
  (conv => whnf); (repeat' first | ((with_reducible refine Box.mk ?_); conv => whnf) | ((with_reducible refine And.intro (fun _ => ?_) (fun _ => ?_)) <;> conv => whnf) | ((with_reducible show AYld _ _ _ _ _); (refine AYld.of tok mixed ?_); conv => whnf) | ((with_reducible show forceH _ _); (refine (forceH_eq _ _).mpr ?_); conv => whnf) | ((with_reducible show ACall _ _ _ _ _); (refine ACall.of_pure (by assumption) (by rfl) ?_); conv => whnf) | ((with_reducible show Exists _); (refine ⟨_, ACall.of_pure (by assumption) (by rfl) ⟨rfl, rfl⟩, ?_⟩); conv => whnf) | ((with_reducible show _ ∧ _ ∧ _); (refine ⟨by omega, by omega, ?_⟩); conv => whnf) | fail)
  rotate_left
  · rename_i h; exact absurd rfl h
  refine aW [1, 2] d2 rfl rfl rfl ?_
  (conv => whnf); (repeat' first | ((with_reducible refine Box.mk ?_); conv => whnf) | ((with_reducible refine And.intro (fun _ => ?_) (fun _ => ?_)) <;> conv => whnf) | ((with_reducible show AYld _ _ _ _ _); (refine AYld.of tok mixed ?_); conv => whnf) | ((with_reducible show forceH _ _); (refine (forceH_eq _ _).mpr ?_); conv => whnf) | ((with_reducible show ACall _ _ _ _ _); (refine ACall.of_pure (by assumption) (by rfl) ?_); conv => whnf) | ((with_reducible show Exists _); (refine ⟨_, ACall.of_pure (by assumption) (by rfl) ⟨rfl, rfl⟩, ?_⟩); conv => whnf) | ((with_reducible show _ ∧ _ ∧ _); (refine ⟨by omega, by omega, ?_⟩); conv => whnf) | fail)
  rotate_left
  · rename_i h; exact absurd rfl h
  refine aW [1, 2] d3 rfl rfl rfl ?_
  (conv => whnf); (repeat' first | ((with_reducible refine Box.mk ?_); conv => whnf) | ((with_reducible refine And.intro (fun _ => ?_) (fun _ => ?_)) <;> conv => whnf) | ((with_reducible show AYld _ _ _ _ _); (refine AYld.of tok mixed ?_); conv => whnf) | ((with_reducible show forceH _ _); (refine (forceH_eq _ _).mpr ?_); conv => whnf) | ((with_reducible show ACall _ _ _ _ _); (refine ACall.of_pure (by assumption) (by rfl) ?_); conv => whnf) | ((with_reducible show Exists _); (refine ⟨_, ACall.of_pure (by assumption) (by rfl) ⟨rfl, rfl⟩, ?_⟩); conv => whnf) | ((with_reducible show _ ∧ _ ∧ _); (refine ⟨by omega, by omega, ?_⟩); conv => whnf) | fail)
  rotate_left
  · rename_i h; exact absurd rfl h
  refine aW [1, 2] d4 rfl rfl rfl ?_
  (conv => whnf); (repeat' first | ((with_reducible refine Box.mk ?_); conv => whnf) | ((with_reducible refine And.intro (fun _ => ?_) (fun _ => ?_)) <;> conv => whnf) | ((with_reducible show AYld _ _ _ _ _); (refine AYld.of tok mixed ?_); conv => whnf) | ((with_reducible show forceH _ _); (refine (forceH_eq _ _).mpr ?_); conv => whnf) | ((with_reducible show ACall _ _ _ _ _); (refine ACall.of_pure (by assumption) (by rfl) ?_); conv => whnf) | ((with_reducible show Exists _); (refine ⟨_, ACall.of_pure (by assumption) (by rfl) ⟨rfl, rfl⟩, ?_⟩); conv => whnf) | ((with_reducible show _ ∧ _ ∧ _); (refine ⟨by omega, by omega, ?_⟩); conv => whnf) | fail)
  rotate_left
  · rename_i h; exact absurd rfl h
  refine aW [1, 2] d5 rfl rfl rfl ?_
  (conv => whnf); (repeat' first | ((with_reducible refine Box.mk ?_); conv => whnf) | ((with_reducible refine And.intro (fun _ => ?_) (fun _ => ?_)) <;> conv => whnf) | ((with_reducible show AYld _ _ _ _ _); (refine AYld.of tok mixed ?_); conv => whnf) | ((with_reducible show forceH _ _); (refine (forceH_eq _ _).mpr ?_); conv => whnf) | ((with_reducible show ACall _ _ _ _ _); (refine ACall.of_pure (by assumption) (by rfl) ?_); conv => whnf) | ((with_reducible show Exists _); (refine ⟨_, ACall.of_pure (by assumption) (by rfl) ⟨rfl, rfl⟩, ?_⟩); conv => whnf) | ((with_reducible show _ ∧ _ ∧ _); (refine ⟨by omega, by omega, ?_⟩); conv => whnf) | fail)
  rotate_left
  · rename_i h; exact absurd rfl h
  refine aW [1, 2] d6 rfl rfl rfl ?_
  (conv => whnf); (repeat' first | ((with_reducible refine Box.mk ?_); conv => whnf) | ((with_reducible refine And.intro (fun _ => ?_) (fun _ => ?_)) <;> conv => whnf) | ((with_reducible show AYld _ _ _ _ _); (refine AYld.of tok mixed ?_); conv => whnf) | ((with_reducible show forceH _ _); (refine (forceH_eq _ _).mpr ?_); conv => whnf) | ((with_reducible show ACall _ _ _ _ _); (refine ACall.of_pure (by assumption) (by rfl) ?_); conv => whnf) | ((with_reducible show Exists _); (refine ⟨_, ACall.of_pure (by assumption) (by rfl) ⟨rfl, rfl⟩, ?_⟩); conv => whnf) | ((with_reducible show _ ∧ _ ∧ _); (refine ⟨by omega, by omega, ?_⟩); conv => whnf) | fail)
  rotate_left
  · rename_i h; exact absurd (show ((pcl ov).length : Int) = 4 by rw [hoc, hov]; rfl) h
  refine aW [1, 2] d7 rfl rfl rfl ?_
  (conv => whnf); (repeat' first | ((with_reducible refine Box.mk ?_); conv => whnf) | ((with_reducible refine And.intro (fun _ => ?_) (fun _ => ?_)) <;> conv => whnf) | ((with_reducible show AYld _ _ _ _ _); (refine AYld.of tok mixed ?_); conv => whnf) | ((with_reducible show forceH _ _); (refine (forceH_eq _ _).mpr ?_); conv => whnf) | ((with_reducible show ACall _ _ _ _ _); (refine ACall.of_pure (by assumption) (by rfl) ?_); conv => whnf) | ((with_reducible show Exists _); (refine ⟨_, ACall.of_pure (by assumption) (by rfl) ⟨rfl, rfl⟩, ?_⟩); conv => whnf) | ((with_reducible show _ ∧ _ ∧ _); (refine ⟨by omega, by omega, ?_⟩); conv => whnf) | fail)
  rotate_left
  · rename_i h; exact absurd rfl h
  refine aW [1, 2] d8 rfl rfl rfl ?_
  (conv => whnf); (repeat' first | ((with_reducible refine Box.mk ?_); conv => whnf) | ((with_reducible refine And.intro (fun _ => ?_) (fun _ => ?_)) <;> conv => whnf) | ((with_reducible show AYld _ _ _ _ _); (refine AYld.of tok mixed ?_); conv => whnf) | ((with_reducible show forceH _ _); (refine (forceH_eq _ _).mpr ?_); conv => whnf) | ((with_reducible show ACall _ _ _ _ _); (refine ACall.of_pure (by assumption) (by rfl) ?_); conv => whnf) | ((with_reducible show Exists _); (refine ⟨_, ACall.of_pure (by assumption) (by rfl) ⟨rfl, rfl⟩, ?_⟩); conv => whnf) | ((with_reducible show _ ∧ _ ∧ _); (refine ⟨by omega, by omega, ?_⟩); conv => whnf) | fail)
  rotate_left
  · rename_i h; exact absurd rfl h
  refine ⟨[], by kernel_rfl, ?_⟩
  (conv => whnf); (repeat' first | ((with_reducible refine Box.mk ?_); conv => whnf) | ((with_reducible refine And.intro (fun _ => ?_) (fun _ => ?_)) <;> conv => whnf) | ((with_reducible show AYld _ _ _ _ _); (refine AYld.of tok mixed ?_); conv => whnf) | ((with_reducible show forceH _ _); (refine (forceH_eq _ _).mpr ?_); conv => whnf) | ((with_reducible show ACall _ _ _ _ _); (refine ACall.of_pure (by assumption) (by rfl) ?_); conv => whnf) | ((with_reducible show Exists _); (refine ⟨_, ACall.of_pure (by assumption) (by rfl) ⟨rfl, rfl⟩, ?_⟩); conv => whnf) | ((with_reducible show _ ∧ _ ∧ _); (refine ⟨by omega, by omega, ?_⟩); conv => whnf) | fail)
  refine ⟨by decide, lcs (pA, 5), rfl, rfl, ?_⟩
  (conv => whnf); (repeat' first | ((with_reducible refine Box.mk ?_); conv => whnf) | ((with_reducible refine And.intro (fun _ => ?_) (fun _ => ?_)) <;> conv => whnf) | ((with_reducible show AYld _ _ _ _ _); (refine AYld.of tok mixed ?_); conv => whnf) | ((with_reducible show forceH _ _); (refine (forceH_eq _ _).mpr ?_); conv => whnf) | ((with_reducible show ACall _ _ _ _ _); (refine ACall.of_pure (by assumption) (by rfl) ?_); conv => whnf) | ((with_reducible show Exists _); (refine ⟨_, ACall.of_pure (by assumption) (by rfl) ⟨rfl, rfl⟩, ?_⟩); conv => whnf) | ((with_reducible show _ ∧ _ ∧ _); (refine ⟨by omega, by omega, ?_⟩); conv => whnf) | fail)
  rotate_left
  · rename_i h; exact absurd ⟨rfl, rfl, rfl, rfl, rfl, rfl, rfl, rfl, rfl, rfl, rfl, rfl, rfl⟩ h
  refine aDr [1, 2] d9 rfl rfl rfl rfl ?_
  (conv => whnf); (repeat' first | ((with_reducible refine Box.mk ?_); conv => whnf) | ((with_reducible refine And.intro (fun _ => ?_) (fun _ => ?_)) <;> conv => whnf) | ((with_reducible show AYld _ _ _ _ _); (refine AYld.of tok mixed ?_); conv => whnf) | ((with_reducible show forceH _ _); (refine (forceH_eq _ _).mpr ?_); conv => whnf) | ((with_reducible show ACall _ _ _ _ _); (refine ACall.of_pure (by assumption) (by rfl) ?_); conv => whnf) | ((with_reducible show Exists _); (refine ⟨_, ACall.of_pure (by assumption) (by rfl) ⟨rfl, rfl⟩, ?_⟩); conv => whnf) | ((with_reducible show _ ∧ _ ∧ _); (refine ⟨by omega, by omega, ?_⟩); conv => whnf) | fail)
  rotate_left
  · rename_i h; exact absurd rfl h
  refine aDr [1, 2] e1 rfl rfl rfl rfl ?_
  (conv => whnf); (repeat' first | ((with_reducible refine Box.mk ?_); conv => whnf) | ((with_reducible refine And.intro (fun _ => ?_) (fun _ => ?_)) <;> conv => whnf) | ((with_reducible show AYld _ _ _ _ _); (refine AYld.of tok mixed ?_); conv => whnf) | ((with_reducible show forceH _ _); (refine (forceH_eq _ _).mpr ?_); conv => whnf) | ((with_reducible show ACall _ _ _ _ _); (refine ACall.of_pure (by assumption) (by rfl) ?_); conv => whnf) | ((with_reducible show Exists _); (refine ⟨_, ACall.of_pure (by assumption) (by rfl) ⟨rfl, rfl⟩, ?_⟩); conv => whnf) | ((with_reducible show _ ∧ _ ∧ _); (refine ⟨by omega, by omega, ?_⟩); conv => whnf) | fail)
  rotate_left
  · rename_i h; exact absurd rfl h
  refine aDr [1, 2] e2 rfl rfl rfl rfl ?_
  (conv => whnf); (repeat' first | ((with_reducible refine Box.mk ?_); conv => whnf) | ((with_reducible refine And.intro (fun _ => ?_) (fun _ => ?_)) <;> conv => whnf) | ((with_reducible show AYld _ _ _ _ _); (refine AYld.of tok mixed ?_); conv => whnf) | ((with_reducible show forceH _ _); (refine (forceH_eq _ _).mpr ?_); conv => whnf) | ((with_reducible show ACall _ _ _ _ _); (refine ACall.of_pure (by assumption) (by rfl) ?_); conv => whnf) | ((with_reducible show Exists _); (refine ⟨_, ACall.of_pure (by assumption) (by rfl) ⟨rfl, rfl⟩, ?_⟩); conv => whnf) | ((with_reducible show _ ∧ _ ∧ _); (refine ⟨by omega, by omega, ?_⟩); conv => whnf) | fail)
  all_goals try (rename_i h; first | exact absurd trivial h | exact absurd rfl h | exact absurd ⟨rfl, rfl, rfl, rfl, rfl, rfl, rfl⟩ h)
  refine aDr [1, 2] e5 rfl rfl rfl rfl ?_
  (conv => whnf); (repeat' first | ((with_reducible refine Box.mk ?_); conv => whnf) | ((with_reducible refine And.intro (fun _ => ?_) (fun _ => ?_)) <;> conv => whnf) | ((with_reducible show AYld _ _ _ _ _); (refine AYld.of tok mixed ?_); conv => whnf) | ((with_reducible show forceH _ _); (refine (forceH_eq _ _).mpr ?_); conv => whnf) | ((with_reducible show ACall _ _ _ _ _); (refine ACall.of_pure (by assumption) (by rfl) ?_); conv => whnf) | ((with_reducible show Exists _); (refine ⟨_, ACall.of_pure (by assumption) (by rfl) ⟨rfl, rfl⟩, ?_⟩); conv => whnf) | ((with_reducible show _ ∧ _ ∧ _); (refine ⟨by omega, by omega, ?_⟩); conv => whnf) | fail)
  all_goals first
    | rfl
    | (rename_i h; exact absurd rfl h)
end Go.Proofs.YtgaohmfmomeflaaGreatDoor
end

section
/- model, the laws: two prefixes and their cross. -/
namespace Go.Proofs.YtgaohmfmomeflaaGreatDoor
open Go.Ve

end Go.Proofs.YtgaohmfmomeflaaGreatDoor
end

section
/- model, the laws: the order of what is put does not matter. -/
namespace Go.Proofs.YtgaohmfmomeflaaGreatDoor
open Go.Ve

theorem lsame_ok (l : Ml) (hl : l.length ≤ 1000000000) : PCall P 28 [.sl (lcl l), .sl (lcl l)] (.bool true) := by
  have hpl := lcl_len l
  refine PCall.of_awp tok mixed fn28 (Nat.le_of_ble_eq_true rfl) ?_
  (conv => whnf); (repeat' first | ((with_reducible refine Box.mk ?_); conv => whnf) | ((with_reducible refine And.intro (fun _ => ?_) (fun _ => ?_)) <;> conv => whnf) | ((with_reducible show AYld _ _ _ _ _); (refine AYld.of tok mixed ?_); conv => whnf) | ((with_reducible show forceH _ _); (refine (forceH_eq _ _).mpr ?_); conv => whnf) | ((with_reducible show ACall _ _ _ _ _); (refine ACall.of_pure (by assumption) (by rfl) ?_); conv => whnf) | ((with_reducible show Exists _); (refine ⟨_, ACall.of_pure (by assumption) (by rfl) ⟨rfl, rfl⟩, ?_⟩); conv => whnf) | ((with_reducible show ∃ L, drawR L _ = true ∧ _); (refine ⟨[], by kernel_rfl, ?_⟩); conv => whnf) | ((with_reducible show _ ∧ _ ∧ _); (refine ⟨by omega, by omega, ?_⟩); conv => whnf) | fail)
  all_goals try contradiction
  refine aloopH (fun i : Nat => i ≤ l.length) (fun i : Nat => [(0, .sl (lcl l)), (1, .sl (lcl l)), (5, .int .i64 i)]) (fun _ H => H) (fun i => l.length - i) 0 (Nat.zero_le _) (weak_to ⟨rfl, rfl, rfl, trivial⟩ rfl) ?_
  intro i hi
  (conv => whnf); (repeat' first | ((with_reducible refine Box.mk ?_); conv => whnf) | ((with_reducible refine And.intro (fun _ => ?_) (fun _ => ?_)) <;> conv => whnf) | ((with_reducible show AYld _ _ _ _ _); (refine AYld.of tok mixed ?_); conv => whnf) | ((with_reducible show forceH _ _); (refine (forceH_eq _ _).mpr ?_); conv => whnf) | ((with_reducible show ACall _ _ _ _ _); (refine ACall.of_pure (by assumption) (by rfl) ?_); conv => whnf) | ((with_reducible show Exists _); (refine ⟨_, ACall.of_pure (by assumption) (by rfl) ⟨rfl, rfl⟩, ?_⟩); conv => whnf) | ((with_reducible show ∃ L, drawR L _ = true ∧ _); (refine ⟨[], by kernel_rfl, ?_⟩); conv => whnf) | ((with_reducible show _ ∧ _ ∧ _); (refine ⟨by omega, by omega, ?_⟩); conv => whnf) | fail)
  · rename_i h
    have hil : i < l.length := by omega
    have hg : (lcl l)[(i : Int).toNat]? = some (lcs l[i]) := by rw [lcl_get, Int.toNat_natCast, List.getElem?_eq_getElem hil]; rfl
    refine ⟨by omega, _, hg, rfl, ?_⟩
    (conv => whnf); (repeat' first | ((with_reducible refine Box.mk ?_); conv => whnf) | ((with_reducible refine And.intro (fun _ => ?_) (fun _ => ?_)) <;> conv => whnf) | ((with_reducible show AYld _ _ _ _ _); (refine AYld.of tok mixed ?_); conv => whnf) | ((with_reducible show forceH _ _); (refine (forceH_eq _ _).mpr ?_); conv => whnf) | ((with_reducible show ACall _ _ _ _ _); (refine ACall.of_pure (by assumption) (by rfl) ?_); conv => whnf) | ((with_reducible show Exists _); (refine ⟨_, ACall.of_pure (by assumption) (by rfl) ⟨rfl, rfl⟩, ?_⟩); conv => whnf) | ((with_reducible show ∃ L, drawR L _ = true ∧ _); (refine ⟨[], by kernel_rfl, ?_⟩); conv => whnf) | ((with_reducible show _ ∧ _ ∧ _); (refine ⟨by omega, by omega, ?_⟩); conv => whnf) | fail)
    refine ⟨by omega, _, hg, rfl, ?_⟩
    (conv => whnf); (repeat' first | ((with_reducible refine Box.mk ?_); conv => whnf) | ((with_reducible refine And.intro (fun _ => ?_) (fun _ => ?_)) <;> conv => whnf) | ((with_reducible show AYld _ _ _ _ _); (refine AYld.of tok mixed ?_); conv => whnf) | ((with_reducible show forceH _ _); (refine (forceH_eq _ _).mpr ?_); conv => whnf) | ((with_reducible show ACall _ _ _ _ _); (refine ACall.of_pure (by assumption) (by rfl) ?_); conv => whnf) | ((with_reducible show Exists _); (refine ⟨_, ACall.of_pure (by assumption) (by rfl) ⟨rfl, rfl⟩, ?_⟩); conv => whnf) | ((with_reducible show ∃ L, drawR L _ = true ∧ _); (refine ⟨[], by kernel_rfl, ?_⟩); conv => whnf) | ((with_reducible show _ ∧ _ ∧ _); (refine ⟨by omega, by omega, ?_⟩); conv => whnf) | fail)
    · exact ⟨i + 1, hil, by omega, weak_to ⟨rfl, rfl, wrap_nat (m := 1) (by omega), trivial⟩ rfl⟩
    · rename_i hbad; exact absurd (⟨rfl, rfl, rfl, rfl, rfl, rfl, rfl, rfl, rfl, rfl, rfl, rfl, rfl⟩ : _ ∧ _ ∧ _ ∧ _ ∧ _ ∧ _ ∧ _ ∧ _ ∧ _ ∧ _ ∧ _ ∧ _ ∧ _) hbad
  · rfl
theorem psame2_ok (l : List Px) (hl : l.length ≤ 1000000000) : PCall P 30 [.sl (pcl l), .sl (pcl l)] (.bool true) := by
  have hpl := pcl_len l
  refine PCall.of_awp tok mixed fn30 (Nat.le_of_ble_eq_true rfl) ?_
  (conv => whnf); (repeat' first | ((with_reducible refine Box.mk ?_); conv => whnf) | ((with_reducible refine And.intro (fun _ => ?_) (fun _ => ?_)) <;> conv => whnf) | ((with_reducible show AYld _ _ _ _ _); (refine AYld.of tok mixed ?_); conv => whnf) | ((with_reducible show forceH _ _); (refine (forceH_eq _ _).mpr ?_); conv => whnf) | ((with_reducible show ACall _ _ _ _ _); (refine ACall.of_pure (by assumption) (by rfl) ?_); conv => whnf) | ((with_reducible show Exists _); (refine ⟨_, ACall.of_pure (by assumption) (by rfl) ⟨rfl, rfl⟩, ?_⟩); conv => whnf) | ((with_reducible show ∃ L, drawR L _ = true ∧ _); (refine ⟨[], by kernel_rfl, ?_⟩); conv => whnf) | ((with_reducible show _ ∧ _ ∧ _); (refine ⟨by omega, by omega, ?_⟩); conv => whnf) | fail)
  all_goals try contradiction
  refine aloopH (fun i : Nat => i ≤ l.length) (fun i : Nat => [(0, .sl (pcl l)), (1, .sl (pcl l)), (5, .int .i64 i)]) (fun _ H => H) (fun i => l.length - i) 0 (Nat.zero_le _) (weak_to ⟨rfl, rfl, rfl, trivial⟩ rfl) ?_
  intro i hi
  (conv => whnf); (repeat' first | ((with_reducible refine Box.mk ?_); conv => whnf) | ((with_reducible refine And.intro (fun _ => ?_) (fun _ => ?_)) <;> conv => whnf) | ((with_reducible show AYld _ _ _ _ _); (refine AYld.of tok mixed ?_); conv => whnf) | ((with_reducible show forceH _ _); (refine (forceH_eq _ _).mpr ?_); conv => whnf) | ((with_reducible show ACall _ _ _ _ _); (refine ACall.of_pure (by assumption) (by rfl) ?_); conv => whnf) | ((with_reducible show Exists _); (refine ⟨_, ACall.of_pure (by assumption) (by rfl) ⟨rfl, rfl⟩, ?_⟩); conv => whnf) | ((with_reducible show ∃ L, drawR L _ = true ∧ _); (refine ⟨[], by kernel_rfl, ?_⟩); conv => whnf) | ((with_reducible show _ ∧ _ ∧ _); (refine ⟨by omega, by omega, ?_⟩); conv => whnf) | fail)
  · rename_i h
    have hil : i < l.length := by omega
    have hg : (pcl l)[(i : Int).toNat]? = some (pcs l[i]) := by rw [pcl_get, Int.toNat_natCast, List.getElem?_eq_getElem hil]; rfl
    refine ⟨by omega, _, hg, rfl, ?_⟩
    (conv => whnf); (repeat' first | ((with_reducible refine Box.mk ?_); conv => whnf) | ((with_reducible refine And.intro (fun _ => ?_) (fun _ => ?_)) <;> conv => whnf) | ((with_reducible show AYld _ _ _ _ _); (refine AYld.of tok mixed ?_); conv => whnf) | ((with_reducible show forceH _ _); (refine (forceH_eq _ _).mpr ?_); conv => whnf) | ((with_reducible show ACall _ _ _ _ _); (refine ACall.of_pure (by assumption) (by rfl) ?_); conv => whnf) | ((with_reducible show Exists _); (refine ⟨_, ACall.of_pure (by assumption) (by rfl) ⟨rfl, rfl⟩, ?_⟩); conv => whnf) | ((with_reducible show ∃ L, drawR L _ = true ∧ _); (refine ⟨[], by kernel_rfl, ?_⟩); conv => whnf) | ((with_reducible show _ ∧ _ ∧ _); (refine ⟨by omega, by omega, ?_⟩); conv => whnf) | fail)
    refine ⟨by omega, _, hg, rfl, ?_⟩
    (conv => whnf); (repeat' first | ((with_reducible refine Box.mk ?_); conv => whnf) | ((with_reducible refine And.intro (fun _ => ?_) (fun _ => ?_)) <;> conv => whnf) | ((with_reducible show AYld _ _ _ _ _); (refine AYld.of tok mixed ?_); conv => whnf) | ((with_reducible show forceH _ _); (refine (forceH_eq _ _).mpr ?_); conv => whnf) | ((with_reducible show ACall _ _ _ _ _); (refine ACall.of_pure (by assumption) (by rfl) ?_); conv => whnf) | ((with_reducible show Exists _); (refine ⟨_, ACall.of_pure (by assumption) (by rfl) ⟨rfl, rfl⟩, ?_⟩); conv => whnf) | ((with_reducible show ∃ L, drawR L _ = true ∧ _); (refine ⟨[], by kernel_rfl, ?_⟩); conv => whnf) | ((with_reducible show _ ∧ _ ∧ _); (refine ⟨by omega, by omega, ?_⟩); conv => whnf) | fail)
    · exact ⟨i + 1, hil, by omega, weak_to ⟨rfl, rfl, wrap_nat (m := 1) (by omega), trivial⟩ rfl⟩
    · rename_i hbad; exact absurd (⟨rfl, rfl, rfl, rfl, rfl, rfl, rfl, rfl, rfl, rfl, rfl, rfl⟩ : _ ∧ _ ∧ _ ∧ _ ∧ _ ∧ _ ∧ _ ∧ _ ∧ _ ∧ _ ∧ _ ∧ _) hbad
  · rfl

/-! ### what is taken is taken again, in any order -/
theorem take_all {s : Sp} : ∀ {l t : Ml}, (∀ x ∈ l, leafR s x.1 = true) → totM t + totM l ≤ 4611686018427387904 → l.foldl (takeP s) t = t ++ l
  | [], t, _, _ => (List.append_nil t).symm
  | x :: l, t, h, ht => by
    have e : totM (x :: l) = x.2 + totM l := by rw [totM, sumF_cons, cond_true]
    have hx : putE s (putAll t) x.1 x.2 = 0 := by
      unfold putE
      rw [h x List.mem_cons_self, cond_true, if_neg]
      have : totM (putAll t) = totM t := sumF_putAll _ _
      omega
    have e2 : totM (t ++ [x]) = totM t + x.2 := by rw [totM, sumF_app, sumF_cons, cond_true, sumF_nil]; rfl
    rw [List.foldl_cons, show takeP s t x = t ++ [x] from if_pos hx, take_all (fun y hy => h y (List.mem_cons_of_mem _ hy)) (by omega), List.append_assoc]
    rfl
theorem fill_all {s : Sp} {l : Ml} (h : ∀ x ∈ l, leafR s x.1 = true) (ht : totM l ≤ 4611686018427387904) (hl : l.length ≤ 200) : fillT s l = l := by
  unfold fillT
  rw [List.take_of_length_le hl, take_all h (by rw [show totM [] = 0 from rfl]; omega), List.nil_append]
theorem fold_leaf {s : Sp} : ∀ {l t : Ml}, (∀ x ∈ t, leafR s x.1 = true) → ∀ x ∈ l.foldl (takeP s) t, leafR s x.1 = true
  | [], _, h => h
  | y :: l, t, h => by
    rw [List.foldl_cons]
    refine fold_leaf (l := l) ?_
    unfold takeP
    split
    · rename_i he
      intro x hx
      rcases List.mem_append.1 hx with hx | hx
      · exact h x hx
      · rw [List.mem_singleton.1 hx]
        unfold putE at he
        cases hr : leafR s y.1 with
        | true => rfl
        | false => rw [hr, cond_false] at he; cases he
    · exact h
theorem fillT_leaf (s : Sp) (l : Ml) : ∀ x ∈ fillT s l, leafR s x.1 = true := fold_leaf fun x hx => by cases hx
theorem fillT_pok {s : Sp} {l : Ml} (ho : ∀ x ∈ l, POk x.1) : ∀ x ∈ fillT s l, POk x.1 := fun x hx => by
  rcases fold_sub s _ _ x hx with h | h
  · cases h
  · exact ho x (List.mem_of_mem_take h)
theorem mOrder_no (s : Sp) (l k : Ml) (p : Px) (hs : soundS s = false) : PCall P 5 [spv s, .sl (lcl l), .sl (lcl k), pxv p] (.bool true) := by
  have c1 := fill_no s hs l
  have c1' := fill_no s hs k
  have c0 := fill_no s hs []
  have c2 := alive35_ok
  have c3 := sound_ok s
  rw [hs] at c3
  have c4 : PCall P 20 [spv s, .nils] (.tup [.nilp, .nils]) := PCall.nils c0
  refine PCall.of_awp tok mixed fn5 (Nat.le_of_ble_eq_true rfl) ?_
  (conv => whnf); (repeat' first | ((with_reducible refine Box.mk ?_); conv => whnf) | ((with_reducible refine And.intro (fun _ => ?_) (fun _ => ?_)) <;> conv => whnf) | ((with_reducible show AYld _ _ _ _ _); (refine AYld.of tok mixed ?_); conv => whnf) | ((with_reducible show forceH _ _); (refine (forceH_eq _ _).mpr ?_); conv => whnf) | ((with_reducible show ACall _ _ _ _ _); (refine ACall.of_pure (by assumption) (by rfl) ?_); conv => whnf) | ((with_reducible show Exists _); (refine ⟨_, ACall.of_pure (by assumption) (by rfl) ⟨rfl, rfl⟩, ?_⟩); conv => whnf) | ((with_reducible show ∃ L, drawR L _ = true ∧ _); (refine ⟨[], by kernel_rfl, ?_⟩); conv => whnf) | ((with_reducible show _ ∧ _ ∧ _); (refine ⟨by omega, by omega, ?_⟩); conv => whnf) | fail)
  refine aloop (fun _ : Unit => True) (fun _ => ⟨envL [(4, .ptr 0 0), (8, .bool false), (9, .nilp), (10, .nils), (11, .nilp), (13, .nils), (14, .int .i64 (-1))], [.box 26 (scs s)]⟩) (fun _ => 0) () trivial (weak_ren_to [(0, true)] rfl rfl rfl ⟨rfl, rfl, rfl, rfl, rfl, rfl, rfl, trivial⟩) ?_
  intro _ _
  (conv => whnf); (repeat' first | ((with_reducible refine Box.mk ?_); conv => whnf) | ((with_reducible refine And.intro (fun _ => ?_) (fun _ => ?_)) <;> conv => whnf) | ((with_reducible show AYld _ _ _ _ _); (refine AYld.of tok mixed ?_); conv => whnf) | ((with_reducible show forceH _ _); (refine (forceH_eq _ _).mpr ?_); conv => whnf) | ((with_reducible show ACall _ _ _ _ _); (refine ACall.of_pure (by assumption) (by rfl) ?_); conv => whnf) | ((with_reducible show Exists _); (refine ⟨_, ACall.of_pure (by assumption) (by rfl) ⟨rfl, rfl⟩, ?_⟩); conv => whnf) | ((with_reducible show ∃ L, drawR L _ = true ∧ _); (refine ⟨[], by kernel_rfl, ?_⟩); conv => whnf) | ((with_reducible show _ ∧ _ ∧ _); (refine ⟨by omega, by omega, ?_⟩); conv => whnf) | fail)
  all_goals first
    | rfl
    | (exfalso; rename_i h; exact absurd h (by decide))
    | (rename_i h; exact absurd trivial h)
end Go.Proofs.YtgaohmfmomeflaaGreatDoor
end

section
/- model, the laws: the order of what is put does not matter, walked. -/
namespace Go.Proofs.YtgaohmfmomeflaaGreatDoor
open Go.Ve

theorem MI.join {s : Sp} {l : Ml} (h : MI s l) {t : Ml} (ht : ∀ x ∈ t, POk x.1) (hr : ∀ x ∈ t, leafR s x.1 = true) (hs : totM l + totM t ≤ 4611686018427387904) (hl : l.length + t.length ≤ 65536) : MI s (putF l t) := by
  refine ⟨h.sound, nodup_putF _ h.nodup, ?_, fun q hq => ?_, Nat.le_trans (putF_len _ _) hl, fun q hq => ?_⟩
  · have : totM (putF l t) = totM l + totM t := sumF_putF _ _ _
    omega
  · rcases (mem_keys_putF t).1 hq with hq | hq
    · exact h.ok q hq
    · obtain ⟨x, hx, rfl⟩ := List.mem_map.1 hq
      exact ht x hx
  · rcases (mem_keys_putF t).1 hq with hq | hq
    · exact h.leaf q hq
    · obtain ⟨x, hx, rfl⟩ := List.mem_map.1 hq
      exact hr x hx
theorem totM_rev (l : Ml) : totM l.reverse = totM l := sumF_perm _ (List.reverse_perm l)
theorem look_rev (l : Ml) (p : Px) : look (putAll l.reverse) p = look (putAll l) p := by
  rw [look_putF, look_putF, sumF_perm _ (List.reverse_perm l)]
theorem putAll_tot (t : Ml) : totM (putAll t) = totM t := sumF_putAll _ _
def OH (s : Sp) (p : Px) (a b : Ml) : Hp := [.box 26 (scs s), .box 34 (pcs p)] ++ MHat 2 s a ++ MHat 4 s b
theorem ModelOrder_ok (s : Sp) (l k : Ml) (hl : ∀ x ∈ l, POk x.1) (hk : ∀ x ∈ k, POk x.1) (p : Px) (hp : POk p) : PCall P 5 [spv s, .sl (lcl l), .sl (lcl k), pxv p] (.bool true) := by
  cases hs : soundS s
  · exact mOrder_no s l k p hs
  have c1 := fill_ok s hs l hl
  have c2 := fill_ok s hs k hk
  have hI1 := fillT_ok hs hl
  have hI2 := fillT_ok hs hk
  have n1 := fillT_len s l
  have n2 := fillT_len s k
  have f1 := fillT_leaf s l
  have f2 := fillT_leaf s k
  have o1 := fillT_pok (s := s) hl
  have o2 := fillT_pok (s := s) hk
  generalize fillT s l = A at *
  generalize fillT s k = B at *
  have hA := lcl_len A
  have hB := lcl_len B
  have tA := hI1.tot
  have tB := hI2.tot
  rw [putAll_tot] at tA tB
  have al := alive35_ok
  have c3 : DCall P 20 [spv s, .sl (lcl A.reverse)] [] (.tup [.ptr 0 0, .sl (lcl A.reverse)]) (MH s (putAll A.reverse)) := by
    have := fill_ok s hs A.reverse fun x hx => o1 x (List.mem_reverse.1 hx)
    rwa [fill_all (fun x hx => f1 x (List.mem_reverse.1 hx)) (by rw [totM_rev]; exact tA) (by rw [List.length_reverse]; exact n1)] at this
  have c4 : DCall P 20 [spv s, .sl (lcl A)] [] (.tup [.ptr 0 0, .sl (lcl A)]) (MH s (putAll A)) := by
    have := fill_ok s hs A o1
    rwa [fill_all f1 tA n1] at this
  have pA := putAll_tot A
  have pB := putAll_tot B
  have eB : IntKind.u64.wrap (4611686018427387904 - (totM (putAll B) : Int)) = ((4611686018427387904 - totM (putAll B) : Nat) : Int) := by rw [wrap_u64 (by omega) (by omega)]; omega
  have hI3 : MI s (putAll A.reverse) := MI.join (MI.nil hs) (fun x hx => o1 x (List.mem_reverse.1 hx)) (fun x hx => f1 x (List.mem_reverse.1 hx)) (by rw [totM_rev, show totM [] = 0 from rfl]; omega) (by rw [List.length_reverse]; show 0 + _ ≤ _; omega)
  have wA := weight_ok s (putAll A) hI1 p hp
  have wB := weight_ok s (putAll B) hI2 p hp
  have nA := total_ok s (putAll A)
  have nB := total_ok s (putAll B)
  have lA := loads_ok s (putAll A) hI1
  have lC := loads_ok s (putAll A.reverse) hI3
  have oA := mOver_ok s (putAll A) hI1
  have oC := mOver_ok s (putAll A.reverse) hI3
  rw [loadsM_ext (nodup_putAll _) (nodup_putAll _) (look_rev A)] at lC
  rw [ovM_ext (nodup_putAll _) (nodup_putAll _) (look_rev A)] at oC
  have m1 := putAll_len A
  have sl := lsame_ok (loadsM (putAll A)) (Nat.le_trans loadsM_len (by omega))
  have so := psame2_ok (ovM s (putAll A)) (Nat.le_trans (ovM_len _ _) (by omega))
  refine PCall.of_awp tok mixed fn5 (Nat.le_of_ble_eq_true rfl) ?_
  (conv => whnf); (repeat' first | ((with_reducible refine Box.mk ?_); conv => whnf) | ((with_reducible refine And.intro (fun _ => ?_) (fun _ => ?_)) <;> conv => whnf) | ((with_reducible show AYld _ _ _ _ _); (refine AYld.of tok mixed ?_); conv => whnf) | ((with_reducible show forceH _ _); (refine (forceH_eq _ _).mpr ?_); conv => whnf) | ((with_reducible show ACall _ _ _ _ _); (refine ACall.of_pure (by assumption) (by rfl) ?_); conv => whnf) | ((with_reducible show Exists _); (refine ⟨_, ACall.of_pure (by assumption) (by rfl) ⟨rfl, rfl⟩, ?_⟩); conv => whnf) | ((with_reducible show _ ∧ _ ∧ _); (refine ⟨by omega, by omega, ?_⟩); conv => whnf) | fail)
  refine aW [] c1 rfl rfl rfl ?_
  (conv => whnf); (repeat' first | ((with_reducible refine Box.mk ?_); conv => whnf) | ((with_reducible refine And.intro (fun _ => ?_) (fun _ => ?_)) <;> conv => whnf) | ((with_reducible show AYld _ _ _ _ _); (refine AYld.of tok mixed ?_); conv => whnf) | ((with_reducible show forceH _ _); (refine (forceH_eq _ _).mpr ?_); conv => whnf) | ((with_reducible show ACall _ _ _ _ _); (refine ACall.of_pure (by assumption) (by rfl) ?_); conv => whnf) | ((with_reducible show Exists _); (refine ⟨_, ACall.of_pure (by assumption) (by rfl) ⟨rfl, rfl⟩, ?_⟩); conv => whnf) | ((with_reducible show _ ∧ _ ∧ _); (refine ⟨by omega, by omega, ?_⟩); conv => whnf) | fail)
  refine aW [] c2 rfl rfl rfl ?_
  (conv => whnf); (repeat' first | ((with_reducible refine Box.mk ?_); conv => whnf) | ((with_reducible refine And.intro (fun _ => ?_) (fun _ => ?_)) <;> conv => whnf) | ((with_reducible show AYld _ _ _ _ _); (refine AYld.of tok mixed ?_); conv => whnf) | ((with_reducible show forceH _ _); (refine (forceH_eq _ _).mpr ?_); conv => whnf) | ((with_reducible show ACall _ _ _ _ _); (refine ACall.of_pure (by assumption) (by rfl) ?_); conv => whnf) | ((with_reducible show Exists _); (refine ⟨_, ACall.of_pure (by assumption) (by rfl) ⟨rfl, rfl⟩, ?_⟩); conv => whnf) | ((with_reducible show _ ∧ _ ∧ _); (refine ⟨by omega, by omega, ?_⟩); conv => whnf) | fail)
  refine aloop (fun t : Nat => t ≤ A.length) (fun t => ⟨envL [(4, .ptr 0 0), (7, .ptr 1 0), (8, .bool false), (9, .ptr 2 0), (10, .sl (lcl A)), (11, .ptr 4 0), (12, .sl (lcl B)), (13, .own 6), (14, .int .i64 ((A.length : Int) - 1 - (t : Int)))], OH s p (putAll A) (putAll B) ++ [Ob.row 46 13 (lcl (A.reverse.take t))]⟩) (fun t => A.length - t) 0 (Nat.zero_le _) ?_ ?_
  · have e1 : IntKind.i64.wrap (((lcl A).length : Int) - 1) = (A.length : Int) - 1 - ((0 : Nat) : Int) := by rw [hA, wrap_i64 (by omega) (by omega)]; omega
    exact (weak_ren_to (l := [(4, .ptr 0 0), (7, .ptr 1 0), (8, .bool false), (9, .ptr 2 0), (10, .sl (lcl A)), (11, .ptr 4 0), (12, .sl (lcl B)), (13, .nils), (14, .int .i64 ((A.length : Int) - 1 - ((0 : Nat) : Int)))]) (H' := OH s p (putAll A) (putAll B)) [(0, true), (1, true), (2, true), (3, true), (4, true), (5, true)] rfl rfl rfl ⟨rfl, rfl, rfl, rfl, rfl, rfl, rfl, rfl, (by exact congrArg (AV.int .i64) e1), trivial⟩).trans
      (weak_nilrow (s := ⟨envL [(4, .ptr 0 0), (7, .ptr 1 0), (8, .bool false), (9, .ptr 2 0), (10, .sl (lcl A)), (11, .ptr 4 0), (12, .sl (lcl B)), (13, .nils), (14, .int .i64 ((A.length : Int) - 1 - ((0 : Nat) : Int)))], OH s p (putAll A) (putAll B)⟩) (l := [(4, .ptr 0 0), (7, .ptr 1 0), (8, .bool false), (9, .ptr 2 0), (10, .sl (lcl A)), (11, .ptr 4 0), (12, .sl (lcl B)), (13, .own 6), (14, .int .i64 ((A.length : Int) - 1 - ((0 : Nat) : Int)))]) (H' := OH s p (putAll A) (putAll B)) 46 13 (by decide) ⟨.inl rfl, .inl rfl, .inl rfl, .inl rfl, .inl rfl, .inl rfl, .inl rfl, .inr ⟨rfl, rfl⟩, .inl rfl, trivial⟩ ⟨.inl rfl, .inl rfl, .inl rfl, .inl rfl, .inl rfl, .inl rfl, trivial⟩)
  intro t ht
  have hrl : (lcl (A.reverse.take t)).length = t := by rw [lcl_len, List.length_take, List.length_reverse]; omega
  (conv => whnf); (repeat' first | ((with_reducible refine Box.mk ?_); conv => whnf) | ((with_reducible refine And.intro (fun _ => ?_) (fun _ => ?_)) <;> conv => whnf) | ((with_reducible show AYld _ _ _ _ _); (refine AYld.of tok mixed ?_); conv => whnf) | ((with_reducible show forceH _ _); (refine (forceH_eq _ _).mpr ?_); conv => whnf) | ((with_reducible show ACall _ _ _ _ _); (refine ACall.of_pure (by assumption) (by rfl) ?_); conv => whnf) | ((with_reducible show Exists _); (refine ⟨_, ACall.of_pure (by assumption) (by rfl) ⟨rfl, rfl⟩, ?_⟩); conv => whnf) | ((with_reducible show _ ∧ _ ∧ _); (refine ⟨by omega, by omega, ?_⟩); conv => whnf) | fail)
  · rename_i hge
    have hge : (0 : Int) ≤ (A.length : Int) - 1 - (t : Int) := by have := hge; omega
    have hlt : t < A.length := by omega
    have hx : A[A.length - 1 - t]? = some A[A.length - 1 - t] := List.getElem?_eq_getElem (by omega)
    have hst : lcl (A.reverse.take (t + 1)) = lcl (A.reverse.take t) ++ [lcs A[A.length - 1 - t]] := by
      rw [List.take_add_one, List.getElem?_reverse hlt, hx]; exact (lcl_snoc _ _).symm
    have ei : ((A.length : Int) - 1 - (t : Int)).toNat = A.length - 1 - t := by omega
    have ew : IntKind.i64.wrap ((A.length : Int) - 1 - (t : Int) - 1) = (A.length : Int) - 1 - ((t + 1 : Nat) : Int) := by rw [wrap_i64 (by omega) (by omega)]; omega
    generalize A[A.length - 1 - t] = x at *
    refine ⟨by omega, lcs x, by rw [ei, lcl_get, hx]; rfl, rfl, ?_⟩
    (conv => whnf); (repeat' first | ((with_reducible refine Box.mk ?_); conv => whnf) | ((with_reducible refine And.intro (fun _ => ?_) (fun _ => ?_)) <;> conv => whnf) | ((with_reducible show AYld _ _ _ _ _); (refine AYld.of tok mixed ?_); conv => whnf) | ((with_reducible show forceH _ _); (refine (forceH_eq _ _).mpr ?_); conv => whnf) | ((with_reducible show ACall _ _ _ _ _); (refine ACall.of_pure (by assumption) (by rfl) ?_); conv => whnf) | ((with_reducible show Exists _); (refine ⟨_, ACall.of_pure (by assumption) (by rfl) ⟨rfl, rfl⟩, ?_⟩); conv => whnf) | ((with_reducible show _ ∧ _ ∧ _); (refine ⟨by omega, by omega, ?_⟩); conv => whnf) | fail)
    refine ⟨fun c hc => by rw [List.mem_singleton.1 hc]; exact ⟨rfl, rfl⟩, by rw [hrl]; show (_ + 1) * 120 ≤ _; omega, by rw [hrl]; show _ + 1 ≤ _; omega, ?_⟩
    (conv => whnf); (repeat' first | ((with_reducible refine Box.mk ?_); conv => whnf) | ((with_reducible refine And.intro (fun _ => ?_) (fun _ => ?_)) <;> conv => whnf) | ((with_reducible show AYld _ _ _ _ _); (refine AYld.of tok mixed ?_); conv => whnf) | ((with_reducible show forceH _ _); (refine (forceH_eq _ _).mpr ?_); conv => whnf) | ((with_reducible show ACall _ _ _ _ _); (refine ACall.of_pure (by assumption) (by rfl) ?_); conv => whnf) | ((with_reducible show Exists _); (refine ⟨_, ACall.of_pure (by assumption) (by rfl) ⟨rfl, rfl⟩, ?_⟩); conv => whnf) | ((with_reducible show _ ∧ _ ∧ _); (refine ⟨by omega, by omega, ?_⟩); conv => whnf) | fail)
    refine ⟨t + 1, hlt, by omega, weak_ren_to [(0, true), (1, true), (2, true), (3, true), (4, true), (5, true), (8, true)] rfl rfl ?_ ⟨rfl, rfl, rfl, rfl, rfl, rfl, rfl, rfl, congrArg (AV.int .i64) ew, trivial⟩⟩
    rw [hst]
    rfl
  · rename_i hge
    have : t = A.length := by have := hge; omega
    subst this
    have et : A.reverse.take A.length = A.reverse := by rw [← List.length_reverse, List.take_length]
    rw [et] at hrl ⊢
    refine ACall.freeze 6 rfl rfl ?_
    refine aW [] c3 rfl rfl rfl ?_
    (conv => whnf); (repeat' first | ((with_reducible refine Box.mk ?_); conv => whnf) | ((with_reducible refine And.intro (fun _ => ?_) (fun _ => ?_)) <;> conv => whnf) | ((with_reducible show AYld _ _ _ _ _); (refine AYld.of tok mixed ?_); conv => whnf) | ((with_reducible show forceH _ _); (refine (forceH_eq _ _).mpr ?_); conv => whnf) | ((with_reducible show ACall _ _ _ _ _); (refine ACall.of_pure (by assumption) (by rfl) ?_); conv => whnf) | ((with_reducible show Exists _); (refine ⟨_, ACall.of_pure (by assumption) (by rfl) ⟨rfl, rfl⟩, ?_⟩); conv => whnf) | ((with_reducible show _ ∧ _ ∧ _); (refine ⟨by omega, by omega, ?_⟩); conv => whnf) | fail)
    all_goals try contradiction
    refine ⟨[], by kernel_rfl, ?_⟩
    (conv => whnf); (repeat' first | ((with_reducible refine Box.mk ?_); conv => whnf) | ((with_reducible refine And.intro (fun _ => ?_) (fun _ => ?_)) <;> conv => whnf) | ((with_reducible show AYld _ _ _ _ _); (refine AYld.of tok mixed ?_); conv => whnf) | ((with_reducible show forceH _ _); (refine (forceH_eq _ _).mpr ?_); conv => whnf) | ((with_reducible show ACall _ _ _ _ _); (refine ACall.of_pure (by assumption) (by rfl) ?_); conv => whnf) | ((with_reducible show Exists _); (refine ⟨_, ACall.of_pure (by assumption) (by rfl) ⟨rfl, rfl⟩, ?_⟩); conv => whnf) | ((with_reducible show _ ∧ _ ∧ _); (refine ⟨by omega, by omega, ?_⟩); conv => whnf) | fail)
    refine aDr [2, 3] wA rfl rfl rfl rfl ?_
    (conv => whnf); (repeat' first | ((with_reducible refine Box.mk ?_); conv => whnf) | ((with_reducible refine And.intro (fun _ => ?_) (fun _ => ?_)) <;> conv => whnf) | ((with_reducible show AYld _ _ _ _ _); (refine AYld.of tok mixed ?_); conv => whnf) | ((with_reducible show forceH _ _); (refine (forceH_eq _ _).mpr ?_); conv => whnf) | ((with_reducible show ACall _ _ _ _ _); (refine ACall.of_pure (by assumption) (by rfl) ?_); conv => whnf) | ((with_reducible show Exists _); (refine ⟨_, ACall.of_pure (by assumption) (by rfl) ⟨rfl, rfl⟩, ?_⟩); conv => whnf) | ((with_reducible show _ ∧ _ ∧ _); (refine ⟨by omega, by omega, ?_⟩); conv => whnf) | fail)
    refine aDr [4, 5] wB rfl rfl rfl rfl ?_
    (conv => whnf); (repeat' first | ((with_reducible refine Box.mk ?_); conv => whnf) | ((with_reducible refine And.intro (fun _ => ?_) (fun _ => ?_)) <;> conv => whnf) | ((with_reducible show AYld _ _ _ _ _); (refine AYld.of tok mixed ?_); conv => whnf) | ((with_reducible show forceH _ _); (refine (forceH_eq _ _).mpr ?_); conv => whnf) | ((with_reducible show ACall _ _ _ _ _); (refine ACall.of_pure (by assumption) (by rfl) ?_); conv => whnf) | ((with_reducible show Exists _); (refine ⟨_, ACall.of_pure (by assumption) (by rfl) ⟨rfl, rfl⟩, ?_⟩); conv => whnf) | ((with_reducible show _ ∧ _ ∧ _); (refine ⟨by omega, by omega, ?_⟩); conv => whnf) | fail)
    refine aDr [2, 3] nA rfl rfl rfl rfl ?_
    (conv => whnf); (repeat' first | ((with_reducible refine Box.mk ?_); conv => whnf) | ((with_reducible refine And.intro (fun _ => ?_) (fun _ => ?_)) <;> conv => whnf) | ((with_reducible show AYld _ _ _ _ _); (refine AYld.of tok mixed ?_); conv => whnf) | ((with_reducible show forceH _ _); (refine (forceH_eq _ _).mpr ?_); conv => whnf) | ((with_reducible show ACall _ _ _ _ _); (refine ACall.of_pure (by assumption) (by rfl) ?_); conv => whnf) | ((with_reducible show Exists _); (refine ⟨_, ACall.of_pure (by assumption) (by rfl) ⟨rfl, rfl⟩, ?_⟩); conv => whnf) | ((with_reducible show _ ∧ _ ∧ _); (refine ⟨by omega, by omega, ?_⟩); conv => whnf) | fail)
    refine aW [2, 3] lA rfl rfl rfl ?_
    (conv => whnf); (repeat' first | ((with_reducible refine Box.mk ?_); conv => whnf) | ((with_reducible refine And.intro (fun _ => ?_) (fun _ => ?_)) <;> conv => whnf) | ((with_reducible show AYld _ _ _ _ _); (refine AYld.of tok mixed ?_); conv => whnf) | ((with_reducible show forceH _ _); (refine (forceH_eq _ _).mpr ?_); conv => whnf) | ((with_reducible show ACall _ _ _ _ _); (refine ACall.of_pure (by assumption) (by rfl) ?_); conv => whnf) | ((with_reducible show Exists _); (refine ⟨_, ACall.of_pure (by assumption) (by rfl) ⟨rfl, rfl⟩, ?_⟩); conv => whnf) | ((with_reducible show _ ∧ _ ∧ _); (refine ⟨by omega, by omega, ?_⟩); conv => whnf) | fail)
    refine aW [7, 8] lC rfl rfl rfl ?_
    (conv => whnf); (repeat' first | ((with_reducible refine Box.mk ?_); conv => whnf) | ((with_reducible refine And.intro (fun _ => ?_) (fun _ => ?_)) <;> conv => whnf) | ((with_reducible show AYld _ _ _ _ _); (refine AYld.of tok mixed ?_); conv => whnf) | ((with_reducible show forceH _ _); (refine (forceH_eq _ _).mpr ?_); conv => whnf) | ((with_reducible show ACall _ _ _ _ _); (refine ACall.of_pure (by assumption) (by rfl) ?_); conv => whnf) | ((with_reducible show Exists _); (refine ⟨_, ACall.of_pure (by assumption) (by rfl) ⟨rfl, rfl⟩, ?_⟩); conv => whnf) | ((with_reducible show _ ∧ _ ∧ _); (refine ⟨by omega, by omega, ?_⟩); conv => whnf) | fail)
    refine aW [2, 3] oA rfl rfl rfl ?_
    (conv => whnf); (repeat' first | ((with_reducible refine Box.mk ?_); conv => whnf) | ((with_reducible refine And.intro (fun _ => ?_) (fun _ => ?_)) <;> conv => whnf) | ((with_reducible show AYld _ _ _ _ _); (refine AYld.of tok mixed ?_); conv => whnf) | ((with_reducible show forceH _ _); (refine (forceH_eq _ _).mpr ?_); conv => whnf) | ((with_reducible show ACall _ _ _ _ _); (refine ACall.of_pure (by assumption) (by rfl) ?_); conv => whnf) | ((with_reducible show Exists _); (refine ⟨_, ACall.of_pure (by assumption) (by rfl) ⟨rfl, rfl⟩, ?_⟩); conv => whnf) | ((with_reducible show _ ∧ _ ∧ _); (refine ⟨by omega, by omega, ?_⟩); conv => whnf) | fail)
    refine aW [7, 8] oC rfl rfl rfl ?_
    (conv => whnf); (repeat' first | ((with_reducible refine Box.mk ?_); conv => whnf) | ((with_reducible refine And.intro (fun _ => ?_) (fun _ => ?_)) <;> conv => whnf) | ((with_reducible show AYld _ _ _ _ _); (refine AYld.of tok mixed ?_); conv => whnf) | ((with_reducible show forceH _ _); (refine (forceH_eq _ _).mpr ?_); conv => whnf) | ((with_reducible show ACall _ _ _ _ _); (refine ACall.of_pure (by assumption) (by rfl) ?_); conv => whnf) | ((with_reducible show Exists _); (refine ⟨_, ACall.of_pure (by assumption) (by rfl) ⟨rfl, rfl⟩, ?_⟩); conv => whnf) | ((with_reducible show _ ∧ _ ∧ _); (refine ⟨by omega, by omega, ?_⟩); conv => whnf) | fail)
    by_cases htot : totM A + totM B ≤ 4611686018427387904
    · have hlo := hI2.ok.loads
      have hlf : ∀ x ∈ loadsM (putAll B), leafR s x.1 = true := fun x hx => hI2.leaf _ (look_key (by rw [← (loadsM_mem.1 hx).1]; exact (loadsM_mem.1 hx).2))
      have tJ : totM (putF (putAll A) (loadsM (putAll B))) = totM (putAll A) + totM (putAll B) := by rw [totM, sumF_putF, sumF_loadsM _ hI2.nodup]
      have vJ : wgt s (putF (putAll A) (loadsM (putAll B))) p = wgt s (putAll A) p + wgt s (putAll B) p := by rw [wgt, sumF_putF, sumF_loadsM _ hI2.nodup]
      have m2 := putAll_len B
      have m3 := loadsM_len (l := putAll B)
      have tL : totM (loadsM (putAll B)) = totM (putAll B) := sumF_loadsM _ hI2.nodup
      have hJ : MI s (putF (putAll A) (loadsM (putAll B))) := hI1.join (fun x hx => hlo.at hx) hlf (by omega) (by omega)
      have hD : MI s (putF (putAll A) B) := hI1.join o2 f2 (by omega) (by omega)
      have wJ := weight_ok s _ hJ p hp
      have nJ := total_ok s (putF (putAll A) (loadsM (putAll B)))
      have lJ := loads_ok s _ hJ
      have lD := loads_ok s _ hD
      have eL : loadsM (putF (putAll A) B) = loadsM (putF (putAll A) (loadsM (putAll B))) := loadsM_ext hD.nodup hJ.nodup fun q => by
        rw [look_putF q B (putAll A), look_putF q (loadsM (putAll B)) (putAll A), sumF_loadsM _ hI2.nodup, sumF_putAll]
      rw [eL] at lD
      have sl2 := lsame_ok (loadsM (putF (putAll A) (loadsM (putAll B)))) (Nat.le_trans loadsM_len (by have := putF_len (loadsM (putAll B)) (putAll A); omega))
      have lw1 : wgt s (putAll A) p ≤ totM (putAll A) := sumF_le _ _
      have lw2 : wgt s (putAll B) p ≤ totM (putAll B) := sumF_le _ _
      have eW : IntKind.u64.wrap ((wgt s (putAll A) p : Int) + (wgt s (putAll B) p : Int)) = ((wgt s (putAll A) p + wgt s (putAll B) p : Nat) : Int) := by rw [wrap_u64 (by omega) (by omega)]; omega
      have eN : IntKind.u64.wrap ((totM (putAll A) : Int) + (totM (putAll B) : Int)) = ((totM (putAll A) + totM (putAll B) : Nat) : Int) := by rw [wrap_u64 (by omega) (by omega)]; omega
      have j1 := join_good s (putAll A) (putAll B) hI1 hI2 (by rw [putAll_tot, putAll_tot]; exact htot)
      refine aW [2, 3, 4, 5] j1 rfl rfl rfl ?_
      (conv => whnf); (repeat' first | ((with_reducible refine Box.mk ?_); conv => whnf) | ((with_reducible refine And.intro (fun _ => ?_) (fun _ => ?_)) <;> conv => whnf) | ((with_reducible show AYld _ _ _ _ _); (refine AYld.of tok mixed ?_); conv => whnf) | ((with_reducible show forceH _ _); (refine (forceH_eq _ _).mpr ?_); conv => whnf) | ((with_reducible show ACall _ _ _ _ _); (refine ACall.of_pure (by assumption) (by rfl) ?_); conv => whnf) | ((with_reducible show Exists _); (refine ⟨_, ACall.of_pure (by assumption) (by rfl) ⟨rfl, rfl⟩, ?_⟩); conv => whnf) | ((with_reducible show _ ∧ _ ∧ _); (refine ⟨by omega, by omega, ?_⟩); conv => whnf) | fail)
      rotate_left
      · rename_i h _; exact absurd rfl h
      · rename_i h _; exact absurd rfl h
      refine aW [] c4 rfl rfl rfl ?_
      (conv => whnf); (repeat' first | ((with_reducible refine Box.mk ?_); conv => whnf) | ((with_reducible refine And.intro (fun _ => ?_) (fun _ => ?_)) <;> conv => whnf) | ((with_reducible show AYld _ _ _ _ _); (refine AYld.of tok mixed ?_); conv => whnf) | ((with_reducible show forceH _ _); (refine (forceH_eq _ _).mpr ?_); conv => whnf) | ((with_reducible show ACall _ _ _ _ _); (refine ACall.of_pure (by assumption) (by rfl) ?_); conv => whnf) | ((with_reducible show Exists _); (refine ⟨_, ACall.of_pure (by assumption) (by rfl) ⟨rfl, rfl⟩, ?_⟩); conv => whnf) | ((with_reducible show _ ∧ _ ∧ _); (refine ⟨by omega, by omega, ?_⟩); conv => whnf) | fail)
      refine aloop (fun i : Nat => i ≤ B.length) (fun i => ⟨envL [(7, .ptr 1 0), (8, .bool false), (9, .ptr 2 0), (11, .ptr 4 0), (12, .sl (lcl B)), (17, .int .u64 (wgt s (putAll A) p : Int)), (18, .int .u64 (wgt s (putAll B) p : Int)), (19, .int .u64 (totM (putAll A) : Int)), (21, .ptr 6 0), (23, .int .i64 (i : Int))], [.box 26 (scs s), .box 34 (pcs p)] ++ MHat 2 s (putF (putAll A) (loadsM (putAll B))) ++ MHat 4 s (putAll B) ++ MHat 6 s (putF (putAll A) (B.take i))⟩) (fun i => B.length - i) 0 (Nat.zero_le _)
        (weak_ren_to [(0, true), (1, true), (2, true), (3, true), (4, true), (5, true), (9, true), (10, true)] rfl rfl rfl ⟨rfl, rfl, rfl, rfl, rfl, rfl, rfl, rfl, rfl, rfl, trivial⟩) ?_
      intro i hi
      (conv => whnf); (repeat' first | ((with_reducible refine Box.mk ?_); conv => whnf) | ((with_reducible refine And.intro (fun _ => ?_) (fun _ => ?_)) <;> conv => whnf) | ((with_reducible show AYld _ _ _ _ _); (refine AYld.of tok mixed ?_); conv => whnf) | ((with_reducible show forceH _ _); (refine (forceH_eq _ _).mpr ?_); conv => whnf) | ((with_reducible show ACall _ _ _ _ _); (refine ACall.of_pure (by assumption) (by rfl) ?_); conv => whnf) | ((with_reducible show Exists _); (refine ⟨_, ACall.of_pure (by assumption) (by rfl) ⟨rfl, rfl⟩, ?_⟩); conv => whnf) | ((with_reducible show _ ∧ _ ∧ _); (refine ⟨by omega, by omega, ?_⟩); conv => whnf) | fail)
      · rename_i hlt
        have hlt : i < B.length := by rw [hB] at hlt; omega
        have hx := List.getElem?_eq_getElem hlt
        have hst : putF (putAll A) (B.take (i + 1)) = addM (putF (putAll A) (B.take i)) B[i].1 B[i].2 := by
          rw [List.take_add_one, hx]; exact putF_snoc _ _ _
        have hxo : POk B[i].1 := o2 _ (List.mem_of_getElem? hx)
        have hxf := f2 _ (List.mem_of_getElem? hx)
        have hto : totM (B.take i) + B[i].2 ≤ totM B := by rw [← tot_step hx]; exact tot_take_le _ _
        have htp : totM (putF (putAll A) (B.take i)) = totM (putAll A) + totM (B.take i) := sumF_putF _ _ _
        have hnp : (keysM (putF (putAll A) (B.take i))).Nodup := nodup_putF _ hI1.nodup
        generalize B[i] = x at *
        have q3 := put_good s (putF (putAll A) (B.take i)) hnp x.1 hxo x.2 (by omega) hxf (by omega)
        rw [← hst] at q3
        refine ⟨[(2011, [])], by kernel_rfl, ?_⟩
        (conv => whnf); (repeat' first | ((with_reducible refine Box.mk ?_); conv => whnf) | ((with_reducible refine And.intro (fun _ => ?_) (fun _ => ?_)) <;> conv => whnf) | ((with_reducible show AYld _ _ _ _ _); (refine AYld.of tok mixed ?_); conv => whnf) | ((with_reducible show forceH _ _); (refine (forceH_eq _ _).mpr ?_); conv => whnf) | ((with_reducible show ACall _ _ _ _ _); (refine ACall.of_pure (by assumption) (by rfl) ?_); conv => whnf) | ((with_reducible show Exists _); (refine ⟨_, ACall.of_pure (by assumption) (by rfl) ⟨rfl, rfl⟩, ?_⟩); conv => whnf) | ((with_reducible show _ ∧ _ ∧ _); (refine ⟨by omega, by omega, ?_⟩); conv => whnf) | fail)
        refine ⟨by omega, lcs x, by rw [Int.toNat_natCast, lcl_get, hx]; rfl, rfl, ?_⟩
        (conv => whnf); (repeat' first | ((with_reducible refine Box.mk ?_); conv => whnf) | ((with_reducible refine And.intro (fun _ => ?_) (fun _ => ?_)) <;> conv => whnf) | ((with_reducible show AYld _ _ _ _ _); (refine AYld.of tok mixed ?_); conv => whnf) | ((with_reducible show forceH _ _); (refine (forceH_eq _ _).mpr ?_); conv => whnf) | ((with_reducible show ACall _ _ _ _ _); (refine ACall.of_pure (by assumption) (by rfl) ?_); conv => whnf) | ((with_reducible show Exists _); (refine ⟨_, ACall.of_pure (by assumption) (by rfl) ⟨rfl, rfl⟩, ?_⟩); conv => whnf) | ((with_reducible show _ ∧ _ ∧ _); (refine ⟨by omega, by omega, ?_⟩); conv => whnf) | fail)
        refine ⟨by omega, lcs x, by rw [Int.toNat_natCast, lcl_get, hx]; rfl, rfl, ?_⟩
        (conv => whnf); (repeat' first | ((with_reducible refine Box.mk ?_); conv => whnf) | ((with_reducible refine And.intro (fun _ => ?_) (fun _ => ?_)) <;> conv => whnf) | ((with_reducible show AYld _ _ _ _ _); (refine AYld.of tok mixed ?_); conv => whnf) | ((with_reducible show forceH _ _); (refine (forceH_eq _ _).mpr ?_); conv => whnf) | ((with_reducible show ACall _ _ _ _ _); (refine ACall.of_pure (by assumption) (by rfl) ?_); conv => whnf) | ((with_reducible show Exists _); (refine ⟨_, ACall.of_pure (by assumption) (by rfl) ⟨rfl, rfl⟩, ?_⟩); conv => whnf) | ((with_reducible show _ ∧ _ ∧ _); (refine ⟨by omega, by omega, ?_⟩); conv => whnf) | fail)
        refine aDw [6, 7] q3 rfl rfl rfl ?_
        (conv => whnf); (repeat' first | ((with_reducible refine Box.mk ?_); conv => whnf) | ((with_reducible refine And.intro (fun _ => ?_) (fun _ => ?_)) <;> conv => whnf) | ((with_reducible show AYld _ _ _ _ _); (refine AYld.of tok mixed ?_); conv => whnf) | ((with_reducible show forceH _ _); (refine (forceH_eq _ _).mpr ?_); conv => whnf) | ((with_reducible show ACall _ _ _ _ _); (refine ACall.of_pure (by assumption) (by rfl) ?_); conv => whnf) | ((with_reducible show Exists _); (refine ⟨_, ACall.of_pure (by assumption) (by rfl) ⟨rfl, rfl⟩, ?_⟩); conv => whnf) | ((with_reducible show _ ∧ _ ∧ _); (refine ⟨by omega, by omega, ?_⟩); conv => whnf) | fail)
        exact ⟨i + 1, hlt, by omega, weak_ren_to [(0, true), (1, true), (2, true), (3, true), (4, true), (5, true), (6, true), (7, true)] rfl rfl rfl ⟨rfl, rfl, rfl, rfl, rfl, rfl, rfl, rfl, rfl, wrap_nat (m := 1) (by omega), trivial⟩⟩
      · rename_i hlt
        have : i = B.length := by rw [hB] at hlt; omega
        subst this
        rw [List.take_length]
        refine aW [2, 3] wJ rfl rfl rfl ?_
        (conv => whnf); (repeat' first | ((with_reducible refine Box.mk ?_); conv => whnf) | ((with_reducible refine And.intro (fun _ => ?_) (fun _ => ?_)) <;> conv => whnf) | ((with_reducible show AYld _ _ _ _ _); (refine AYld.of tok mixed ?_); conv => whnf) | ((with_reducible show forceH _ _); (refine (forceH_eq _ _).mpr ?_); conv => whnf) | ((with_reducible show ACall _ _ _ _ _); (refine ACall.of_pure (by assumption) (by rfl) ?_); conv => whnf) | ((with_reducible show Exists _); (refine ⟨_, ACall.of_pure (by assumption) (by rfl) ⟨rfl, rfl⟩, ?_⟩); conv => whnf) | ((with_reducible show _ ∧ _ ∧ _); (refine ⟨by omega, by omega, ?_⟩); conv => whnf) | fail)
        rotate_left
        · rename_i h; exfalso; rw [eW] at h; omega
        refine aW [2, 3] nJ rfl rfl rfl ?_
        (conv => whnf); (repeat' first | ((with_reducible refine Box.mk ?_); conv => whnf) | ((with_reducible refine And.intro (fun _ => ?_) (fun _ => ?_)) <;> conv => whnf) | ((with_reducible show AYld _ _ _ _ _); (refine AYld.of tok mixed ?_); conv => whnf) | ((with_reducible show forceH _ _); (refine (forceH_eq _ _).mpr ?_); conv => whnf) | ((with_reducible show ACall _ _ _ _ _); (refine ACall.of_pure (by assumption) (by rfl) ?_); conv => whnf) | ((with_reducible show Exists _); (refine ⟨_, ACall.of_pure (by assumption) (by rfl) ⟨rfl, rfl⟩, ?_⟩); conv => whnf) | ((with_reducible show _ ∧ _ ∧ _); (refine ⟨by omega, by omega, ?_⟩); conv => whnf) | fail)
        refine aW [4, 5] nB rfl rfl rfl ?_
        (conv => whnf); (repeat' first | ((with_reducible refine Box.mk ?_); conv => whnf) | ((with_reducible refine And.intro (fun _ => ?_) (fun _ => ?_)) <;> conv => whnf) | ((with_reducible show AYld _ _ _ _ _); (refine AYld.of tok mixed ?_); conv => whnf) | ((with_reducible show forceH _ _); (refine (forceH_eq _ _).mpr ?_); conv => whnf) | ((with_reducible show ACall _ _ _ _ _); (refine ACall.of_pure (by assumption) (by rfl) ?_); conv => whnf) | ((with_reducible show Exists _); (refine ⟨_, ACall.of_pure (by assumption) (by rfl) ⟨rfl, rfl⟩, ?_⟩); conv => whnf) | ((with_reducible show _ ∧ _ ∧ _); (refine ⟨by omega, by omega, ?_⟩); conv => whnf) | fail)
        rotate_left
        · rename_i h; exfalso; rw [eN] at h; omega
        refine aW [2, 3] lJ rfl rfl rfl ?_
        (conv => whnf); (repeat' first | ((with_reducible refine Box.mk ?_); conv => whnf) | ((with_reducible refine And.intro (fun _ => ?_) (fun _ => ?_)) <;> conv => whnf) | ((with_reducible show AYld _ _ _ _ _); (refine AYld.of tok mixed ?_); conv => whnf) | ((with_reducible show forceH _ _); (refine (forceH_eq _ _).mpr ?_); conv => whnf) | ((with_reducible show ACall _ _ _ _ _); (refine ACall.of_pure (by assumption) (by rfl) ?_); conv => whnf) | ((with_reducible show Exists _); (refine ⟨_, ACall.of_pure (by assumption) (by rfl) ⟨rfl, rfl⟩, ?_⟩); conv => whnf) | ((with_reducible show _ ∧ _ ∧ _); (refine ⟨by omega, by omega, ?_⟩); conv => whnf) | fail)
        refine aW [6, 7] lD rfl rfl rfl ?_
        (conv => whnf); (repeat' first | ((with_reducible refine Box.mk ?_); conv => whnf) | ((with_reducible refine And.intro (fun _ => ?_) (fun _ => ?_)) <;> conv => whnf) | ((with_reducible show AYld _ _ _ _ _); (refine AYld.of tok mixed ?_); conv => whnf) | ((with_reducible show forceH _ _); (refine (forceH_eq _ _).mpr ?_); conv => whnf) | ((with_reducible show ACall _ _ _ _ _); (refine ACall.of_pure (by assumption) (by rfl) ?_); conv => whnf) | ((with_reducible show Exists _); (refine ⟨_, ACall.of_pure (by assumption) (by rfl) ⟨rfl, rfl⟩, ?_⟩); conv => whnf) | ((with_reducible show _ ∧ _ ∧ _); (refine ⟨by omega, by omega, ?_⟩); conv => whnf) | fail)
        rfl
    · have j2 := join_over s (putAll A) (putAll B) hI1 hI2 (by rw [putAll_tot, putAll_tot]; omega)
      refine aW [2, 3, 4, 5] j2 rfl rfl rfl ?_
      (conv => whnf); (repeat' first | ((with_reducible refine Box.mk ?_); conv => whnf) | ((with_reducible refine And.intro (fun _ => ?_) (fun _ => ?_)) <;> conv => whnf) | ((with_reducible show AYld _ _ _ _ _); (refine AYld.of tok mixed ?_); conv => whnf) | ((with_reducible show forceH _ _); (refine (forceH_eq _ _).mpr ?_); conv => whnf) | ((with_reducible show ACall _ _ _ _ _); (refine ACall.of_pure (by assumption) (by rfl) ?_); conv => whnf) | ((with_reducible show Exists _); (refine ⟨_, ACall.of_pure (by assumption) (by rfl) ⟨rfl, rfl⟩, ?_⟩); conv => whnf) | ((with_reducible show _ ∧ _ ∧ _); (refine ⟨by omega, by omega, ?_⟩); conv => whnf) | fail)
      · rename_i h; exact absurd h (by decide)
      rotate_left
      · rename_i h; exact absurd rfl h
      refine aW [4, 5] nB rfl rfl rfl ?_
      (conv => whnf); (repeat' first | ((with_reducible refine Box.mk ?_); conv => whnf) | ((with_reducible refine And.intro (fun _ => ?_) (fun _ => ?_)) <;> conv => whnf) | ((with_reducible show AYld _ _ _ _ _); (refine AYld.of tok mixed ?_); conv => whnf) | ((with_reducible show forceH _ _); (refine (forceH_eq _ _).mpr ?_); conv => whnf) | ((with_reducible show ACall _ _ _ _ _); (refine ACall.of_pure (by assumption) (by rfl) ?_); conv => whnf) | ((with_reducible show Exists _); (refine ⟨_, ACall.of_pure (by assumption) (by rfl) ⟨rfl, rfl⟩, ?_⟩); conv => whnf) | ((with_reducible show _ ∧ _ ∧ _); (refine ⟨by omega, by omega, ?_⟩); conv => whnf) | fail)
      rotate_left
      · rename_i h; exfalso; rw [eB] at h; omega
      refine aW [2, 3] nA rfl rfl rfl ?_
      (conv => whnf); (repeat' first | ((with_reducible refine Box.mk ?_); conv => whnf) | ((with_reducible refine And.intro (fun _ => ?_) (fun _ => ?_)) <;> conv => whnf) | ((with_reducible show AYld _ _ _ _ _); (refine AYld.of tok mixed ?_); conv => whnf) | ((with_reducible show forceH _ _); (refine (forceH_eq _ _).mpr ?_); conv => whnf) | ((with_reducible show ACall _ _ _ _ _); (refine ACall.of_pure (by assumption) (by rfl) ?_); conv => whnf) | ((with_reducible show Exists _); (refine ⟨_, ACall.of_pure (by assumption) (by rfl) ⟨rfl, rfl⟩, ?_⟩); conv => whnf) | ((with_reducible show _ ∧ _ ∧ _); (refine ⟨by omega, by omega, ?_⟩); conv => whnf) | fail)
      rotate_left
      · rename_i h; exact absurd rfl h
      refine aW [2, 3] wA rfl rfl rfl ?_
      (conv => whnf); (repeat' first | ((with_reducible refine Box.mk ?_); conv => whnf) | ((with_reducible refine And.intro (fun _ => ?_) (fun _ => ?_)) <;> conv => whnf) | ((with_reducible show AYld _ _ _ _ _); (refine AYld.of tok mixed ?_); conv => whnf) | ((with_reducible show forceH _ _); (refine (forceH_eq _ _).mpr ?_); conv => whnf) | ((with_reducible show ACall _ _ _ _ _); (refine ACall.of_pure (by assumption) (by rfl) ?_); conv => whnf) | ((with_reducible show Exists _); (refine ⟨_, ACall.of_pure (by assumption) (by rfl) ⟨rfl, rfl⟩, ?_⟩); conv => whnf) | ((with_reducible show _ ∧ _ ∧ _); (refine ⟨by omega, by omega, ?_⟩); conv => whnf) | fail)
      · rfl
      · rename_i h; exact absurd rfl h
end Go.Proofs.YtgaohmfmomeflaaGreatDoor
end

section
/- model: the order of what is put, of any arguments. -/
namespace Go.Proofs.YtgaohmfmomeflaaGreatDoor
open Go.Ve

theorem ModelOrder_args (xs : List AV) (h : WfA ty 1048576 [26, 40, 40, 34] xs) : PCall P 5 xs (.bool true) := by
  obtain ⟨y1, r1, rfl, g1, h1⟩ := h.cons_inv
  obtain ⟨y2, r2, rfl, g2, h2⟩ := h1.cons_inv
  obtain ⟨y3, r3, rfl, g3, h3⟩ := h2.cons_inv
  obtain ⟨y4, r4, rfl, g4, h4⟩ := h3.cons_inv
  obtain rfl := h4.nil_inv
  obtain ⟨s, rfl⟩ := space_inv g1
  obtain ⟨l, el, ho, _⟩ := lds_inv g2
  obtain ⟨k, ek, ho2, _⟩ := lds_inv g3
  obtain ⟨p, rfl, hp⟩ := prefix_inv g4
  refine PCall.nils ?_
  show PCall P _ [spv s, mpA nlN y2, mpA nlN y3, pxv p] _
  rw [el, ek]
  exact ModelOrder_ok s l k ho ho2 p hp
end Go.Proofs.YtgaohmfmomeflaaGreatDoor
end
