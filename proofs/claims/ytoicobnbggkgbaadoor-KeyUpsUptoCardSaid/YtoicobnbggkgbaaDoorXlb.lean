/- The program's contracts: texts joined into one: Ups2 LawUps. -/
import Derived.Test.YtoicobnbggkgbaaDoorXla

section
/- key, the document's answer: the keys over a key; the statement. -/
namespace Go.Proofs.YtoicobnbggkgbaaDoor
open Go.Ve

def lu : Nat → AV
  | 0 => .nils
  | _ + 1 => .own 1
def luH (k : Ky) : Nat → Hp → Hp
  | 0, H => H
  | i + 1, H => H ++ [.row 24 5 (kcl ((upsK k).take (i + 1)))]
theorem rUp_ok (k : Ky) (hn : k.n < 2 ^ 128) (hp : k.path.length < 134217728) : PCall P 26 [kv k] (kvl (upsK k)) := by
  have q1 := letters_ok k (by omega)
  cases hr : rightK k
  · rw [hr] at q1
    have e : upsK k = [] := by rw [upsK, hr, cond_false]
    rw [e]
    refine PCall.of_awp tok mixed fn26 (Nat.le_of_ble_eq_true rfl) ?_
    (conv => whnf); (repeat' first | ((with_reducible refine Box.mk ?_); conv => whnf) | ((with_reducible refine And.intro (fun _ => ?_) (fun _ => ?_)) <;> conv => whnf) | ((with_reducible show AYld _ _ _ _ _); (refine AYld.of tok mixed ?_); conv => whnf) | ((with_reducible show ACall _ _ _ _ _); (refine ACall.of_pure (by assumption) (by rfl) ?_); conv => whnf) | ((with_reducible show Exists _); (refine ⟨_, ACall.of_pure (by assumption) (by rfl) ⟨rfl, rfl⟩, ?_⟩); conv => whnf) | ((with_reducible show ∃ L, drawR L _ = true ∧ _); (refine ⟨[], by kernel_rfl, ?_⟩); conv => whnf) | ((with_reducible show _ ∧ _ ∧ _); (refine ⟨by omega, by omega, ?_⟩); conv => whnf) | fail)
    refine aloopH (fun _ => True) (fun _ : Unit => [(1, .ptr 0 0), (3, .nils), (4, .bool false), (5, .nils), (6, .int .i64 0)]) (fun _ H => H) (fun _ => 0) () trivial (weak_to ⟨rfl, rfl, rfl, rfl, rfl, trivial⟩ rfl) ?_
    intro _ _
    (conv => whnf); (repeat' first | ((with_reducible refine Box.mk ?_); conv => whnf) | ((with_reducible refine And.intro (fun _ => ?_) (fun _ => ?_)) <;> conv => whnf) | ((with_reducible show AYld _ _ _ _ _); (refine AYld.of tok mixed ?_); conv => whnf) | ((with_reducible show ACall _ _ _ _ _); (refine ACall.of_pure (by assumption) (by rfl) ?_); conv => whnf) | ((with_reducible show Exists _); (refine ⟨_, ACall.of_pure (by assumption) (by rfl) ⟨rfl, rfl⟩, ?_⟩); conv => whnf) | ((with_reducible show ∃ L, drawR L _ = true ∧ _); (refine ⟨[], by kernel_rfl, ?_⟩); conv => whnf) | ((with_reducible show _ ∧ _ ∧ _); (refine ⟨by omega, by omega, ?_⟩); conv => whnf) | fail)
    all_goals first
      | contradiction
      | rfl
  · rw [hr, cond_true] at q1
    have hl := right_len hr
    have hup := upsK_len hr
    have htk := fun (i : Nat) hi => upsK_take hr (i := i) hi
    have hll := letters_len hr
    have hne : upsK k ≠ [] := fun e => by rw [e] at hup; cases hup
    rw [kvl_sl hne]
    have hfin : (upsK k).take (k.len.toNat + 1) = upsK k := List.take_of_length_le (by omega)
    generalize hL : k.len.toNat = L at *
    have hL' : k.len = (L : Int) := by omega
    have hl1 : ∀ i, i ≤ L + 1 → (kcl ((upsK k).take i)).length = i := fun i hi => by rw [kcl_len, List.length_take]; omega
    have hnext : ∀ i, i ≤ L → kcl ((upsK k).take i) ++ [kcs (cutK k ((L - i : Nat) : Int))] = kcl ((upsK k).take (i + 1)) := fun i h => by rw [htk i h, kcl_snoc, hL', show ((L - i : Nat) : Int) = (L : Int) - (i : Nat) by omega]
    have e1 : ∀ i : Nat, i ≤ L → IntKind.i64.wrap (k.len - (i : Nat) - 1) = k.len - ((i + 1 : Nat) : Int) := fun i h => by rw [wrap_i64 (by omega) (by omega)]; omega
    have hn1 : ∀ i : Nat, i ≤ L → (k.len - (i : Nat)).toNat = L - i := fun i h => by omega
    cases hLL : lettersL k with
    | nil =>
      rw [hLL] at q1 hll
      have hll : (0 : Int) = k.len := hll
      have q2 := of_nils hn hr
      have hL0 : L = 0 := by omega
      subst hL0
      have h0 := hnext 0 (by omega)
      refine PCall.of_awp tok mixed fn26 (Nat.le_of_ble_eq_true rfl) ?_
      (conv => whnf); (repeat' first | ((with_reducible refine Box.mk ?_); conv => whnf) | ((with_reducible refine And.intro (fun _ => ?_) (fun _ => ?_)) <;> conv => whnf) | ((with_reducible show AYld _ _ _ _ _); (refine AYld.of tok mixed ?_); conv => whnf) | ((with_reducible show ACall _ _ _ _ _); (refine ACall.of_pure (by assumption) (by rfl) ?_); conv => whnf) | ((with_reducible show Exists _); (refine ⟨_, ACall.of_pure (by assumption) (by rfl) ⟨rfl, rfl⟩, ?_⟩); conv => whnf) | ((with_reducible show ∃ L, drawR L _ = true ∧ _); (refine ⟨[], by kernel_rfl, ?_⟩); conv => whnf) | ((with_reducible show _ ∧ _ ∧ _); (refine ⟨by omega, by omega, ?_⟩); conv => whnf) | fail)
      refine aloopH (fun i : Nat => i ≤ 1) (fun i : Nat => [(1, .ptr 0 0), (3, .nils), (4, .bool true), (5, lu i), (6, .int .i64 (k.len - (i : Nat)))]) (luH k) (fun i => 1 - i) 0 (by omega)
        (weak_to ⟨rfl, rfl, rfl, rfl, congrArg (AV.int .i64) (by omega), trivial⟩ rfl) ?_
      intro i hi
      rcases i with _ | i
      · (conv => whnf); (repeat' first | ((with_reducible refine Box.mk ?_); conv => whnf) | ((with_reducible refine And.intro (fun _ => ?_) (fun _ => ?_)) <;> conv => whnf) | ((with_reducible show AYld _ _ _ _ _); (refine AYld.of tok mixed ?_); conv => whnf) | ((with_reducible show ACall _ _ _ _ _); (refine ACall.of_pure (by assumption) (by rfl) ?_); conv => whnf) | ((with_reducible show Exists _); (refine ⟨_, ACall.of_pure (by assumption) (by rfl) ⟨rfl, rfl⟩, ?_⟩); conv => whnf) | ((with_reducible show ∃ L, drawR L _ = true ∧ _); (refine ⟨[], by kernel_rfl, ?_⟩); conv => whnf) | ((with_reducible show _ ∧ _ ∧ _); (refine ⟨by omega, by omega, ?_⟩); conv => whnf) | fail)
        · refine ⟨fun c hc => by rw [List.mem_singleton.1 hc]; exact ⟨rfl, rfl⟩, fun h => (by cases h), fun _ => ⟨Nat.le_of_ble_eq_true rfl, Nat.le_of_ble_eq_true rfl, ?_⟩⟩
          (conv => whnf); (repeat' first | ((with_reducible refine Box.mk ?_); conv => whnf) | ((with_reducible refine And.intro (fun _ => ?_) (fun _ => ?_)) <;> conv => whnf) | ((with_reducible show AYld _ _ _ _ _); (refine AYld.of tok mixed ?_); conv => whnf) | ((with_reducible show ACall _ _ _ _ _); (refine ACall.of_pure (by assumption) (by rfl) ?_); conv => whnf) | ((with_reducible show Exists _); (refine ⟨_, ACall.of_pure (by assumption) (by rfl) ⟨rfl, rfl⟩, ?_⟩); conv => whnf) | ((with_reducible show ∃ L, drawR L _ = true ∧ _); (refine ⟨[], by kernel_rfl, ?_⟩); conv => whnf) | ((with_reducible show _ ∧ _ ∧ _); (refine ⟨by omega, by omega, ?_⟩); conv => whnf) | fail)
          refine ⟨0 + 1, by omega, by omega, weak_ren_to [(0, true), (2, true)] rfl rfl ?_ ⟨rfl, rfl, rfl, rfl, congrArg (AV.int .i64) (e1 0 (by omega)), trivial⟩⟩
          show [_, Ob.row _ _ [kcs _]] = [_, Ob.row _ _ (kcl _)]
          rw [← h0]
          rfl
        · rename_i h1; exfalso; omega
      · have : i = 0 := by omega
        subst this
        (conv => whnf); (repeat' first | ((with_reducible refine Box.mk ?_); conv => whnf) | ((with_reducible refine And.intro (fun _ => ?_) (fun _ => ?_)) <;> conv => whnf) | ((with_reducible show AYld _ _ _ _ _); (refine AYld.of tok mixed ?_); conv => whnf) | ((with_reducible show ACall _ _ _ _ _); (refine ACall.of_pure (by assumption) (by rfl) ?_); conv => whnf) | ((with_reducible show Exists _); (refine ⟨_, ACall.of_pure (by assumption) (by rfl) ⟨rfl, rfl⟩, ?_⟩); conv => whnf) | ((with_reducible show ∃ L, drawR L _ = true ∧ _); (refine ⟨[], by kernel_rfl, ?_⟩); conv => whnf) | ((with_reducible show _ ∧ _ ∧ _); (refine ⟨by omega, by omega, ?_⟩); conv => whnf) | fail)
        · rename_i h1; exfalso; omega
        · rw [hfin]; rfl
    | cons x l =>
      rw [hLL] at q1 hll
      have q2 : ∀ m : Nat, (m : Int) ≤ k.len → PCall P 48 [.int .i64 k.kind, .sl (((strs (x :: l)).take m).drop 0)] (kv (cutK k m)) := fun m hm => by
        rw [strs_take, ← hLL]; exact of_take hn hr m hm
      have hlen : ((strs (x :: l)).length : Int) = k.len := by rw [strs_len]; exact hll
      have hal := strs_all (x :: l)
      refine PCall.of_awp tok mixed fn26 (Nat.le_of_ble_eq_true rfl) ?_
      (conv => whnf); (repeat' first | ((with_reducible refine Box.mk ?_); conv => whnf) | ((with_reducible refine And.intro (fun _ => ?_) (fun _ => ?_)) <;> conv => whnf) | ((with_reducible show AYld _ _ _ _ _); (refine AYld.of tok mixed ?_); conv => whnf) | ((with_reducible show ACall _ _ _ _ _); (refine ACall.of_pure (by assumption) (by rfl) ?_); conv => whnf) | ((with_reducible show Exists _); (refine ⟨_, ACall.of_pure (by assumption) (by rfl) ⟨rfl, rfl⟩, ?_⟩); conv => whnf) | ((with_reducible show ∃ L, drawR L _ = true ∧ _); (refine ⟨[], by kernel_rfl, ?_⟩); conv => whnf) | ((with_reducible show _ ∧ _ ∧ _); (refine ⟨by omega, by omega, ?_⟩); conv => whnf) | fail)
      refine aloopH (fun i : Nat => i ≤ L + 1) (fun i : Nat => [(1, .ptr 0 0), (3, .sl (strs (x :: l))), (4, .bool true), (5, lu i), (6, .int .i64 (k.len - (i : Nat)))]) (luH k) (fun i => L + 1 - i) 0 (by omega)
        (weak_to ⟨rfl, rfl, rfl, rfl, congrArg (AV.int .i64) (by omega), trivial⟩ rfl) ?_
      intro i hi
      have hdone : L + 1 ≤ i → (upsK k).take i = upsK k := fun h => List.take_of_length_le (by omega)
      rcases i with _ | i
      · (conv => whnf); (repeat' first | ((with_reducible refine Box.mk ?_); conv => whnf) | ((with_reducible refine And.intro (fun _ => ?_) (fun _ => ?_)) <;> conv => whnf) | ((with_reducible show AYld _ _ _ _ _); (refine AYld.of tok mixed ?_); conv => whnf) | ((with_reducible show ACall _ _ _ _ _); (refine ACall.of_pure (by assumption) (by rfl) ?_); conv => whnf) | ((with_reducible show Exists _); (refine ⟨_, ACall.of_pure (by assumption) (by rfl) ⟨rfl, rfl⟩, ?_⟩); conv => whnf) | ((with_reducible show ∃ L, drawR L _ = true ∧ _); (refine ⟨[], by kernel_rfl, ?_⟩); conv => whnf) | ((with_reducible show _ ∧ _ ∧ _); (refine ⟨by omega, by omega, ?_⟩); conv => whnf) | fail)
        · refine ⟨hal, ?_⟩
          (conv => whnf); (repeat' first | ((with_reducible refine Box.mk ?_); conv => whnf) | ((with_reducible refine And.intro (fun _ => ?_) (fun _ => ?_)) <;> conv => whnf) | ((with_reducible show AYld _ _ _ _ _); (refine AYld.of tok mixed ?_); conv => whnf) | ((with_reducible show ACall _ _ _ _ _); (refine ACall.of_pure (by assumption) (by rfl) ?_); conv => whnf) | ((with_reducible show Exists _); (refine ⟨_, ACall.of_pure (by assumption) (by rfl) ⟨rfl, rfl⟩, ?_⟩); conv => whnf) | ((with_reducible show ∃ L, drawR L _ = true ∧ _); (refine ⟨[], by kernel_rfl, ?_⟩); conv => whnf) | ((with_reducible show _ ∧ _ ∧ _); (refine ⟨by omega, by omega, ?_⟩); conv => whnf) | fail)
          rw [hn1 0 (by omega)]
          refine ⟨_, ACall.of_pure (q2 _ (by omega)) rfl ⟨rfl, rfl⟩, ?_⟩
          (conv => whnf); (repeat' first | ((with_reducible refine Box.mk ?_); conv => whnf) | ((with_reducible refine And.intro (fun _ => ?_) (fun _ => ?_)) <;> conv => whnf) | ((with_reducible show AYld _ _ _ _ _); (refine AYld.of tok mixed ?_); conv => whnf) | ((with_reducible show ACall _ _ _ _ _); (refine ACall.of_pure (by assumption) (by rfl) ?_); conv => whnf) | ((with_reducible show Exists _); (refine ⟨_, ACall.of_pure (by assumption) (by rfl) ⟨rfl, rfl⟩, ?_⟩); conv => whnf) | ((with_reducible show ∃ L, drawR L _ = true ∧ _); (refine ⟨[], by kernel_rfl, ?_⟩); conv => whnf) | ((with_reducible show _ ∧ _ ∧ _); (refine ⟨by omega, by omega, ?_⟩); conv => whnf) | fail)
          refine ⟨fun c hc => by rw [List.mem_singleton.1 hc]; exact ⟨rfl, rfl⟩, fun h => (by cases h), fun _ => ⟨Nat.le_of_ble_eq_true rfl, Nat.le_of_ble_eq_true rfl, ?_⟩⟩
          (conv => whnf); (repeat' first | ((with_reducible refine Box.mk ?_); conv => whnf) | ((with_reducible refine And.intro (fun _ => ?_) (fun _ => ?_)) <;> conv => whnf) | ((with_reducible show AYld _ _ _ _ _); (refine AYld.of tok mixed ?_); conv => whnf) | ((with_reducible show ACall _ _ _ _ _); (refine ACall.of_pure (by assumption) (by rfl) ?_); conv => whnf) | ((with_reducible show Exists _); (refine ⟨_, ACall.of_pure (by assumption) (by rfl) ⟨rfl, rfl⟩, ?_⟩); conv => whnf) | ((with_reducible show ∃ L, drawR L _ = true ∧ _); (refine ⟨[], by kernel_rfl, ?_⟩); conv => whnf) | ((with_reducible show _ ∧ _ ∧ _); (refine ⟨by omega, by omega, ?_⟩); conv => whnf) | fail)
          refine ⟨0 + 1, by omega, by omega, weak_ren_to [(0, true), (2, true)] rfl rfl ?_ ⟨rfl, rfl, rfl, rfl, congrArg (AV.int .i64) (e1 0 (by omega)), trivial⟩⟩
          show [_, Ob.row _ _ [kcs _]] = [_, Ob.row _ _ (kcl _)]
          rw [← hnext 0 (by omega)]
          rfl
        · rename_i h1; exfalso; omega
      · have hl2 := hl1 (i + 1) hi
        (conv => whnf); (repeat' first | ((with_reducible refine Box.mk ?_); conv => whnf) | ((with_reducible refine And.intro (fun _ => ?_) (fun _ => ?_)) <;> conv => whnf) | ((with_reducible show AYld _ _ _ _ _); (refine AYld.of tok mixed ?_); conv => whnf) | ((with_reducible show ACall _ _ _ _ _); (refine ACall.of_pure (by assumption) (by rfl) ?_); conv => whnf) | ((with_reducible show Exists _); (refine ⟨_, ACall.of_pure (by assumption) (by rfl) ⟨rfl, rfl⟩, ?_⟩); conv => whnf) | ((with_reducible show ∃ L, drawR L _ = true ∧ _); (refine ⟨[], by kernel_rfl, ?_⟩); conv => whnf) | ((with_reducible show _ ∧ _ ∧ _); (refine ⟨by omega, by omega, ?_⟩); conv => whnf) | fail)
        · refine ⟨hal, ?_⟩
          (conv => whnf); (repeat' first | ((with_reducible refine Box.mk ?_); conv => whnf) | ((with_reducible refine And.intro (fun _ => ?_) (fun _ => ?_)) <;> conv => whnf) | ((with_reducible show AYld _ _ _ _ _); (refine AYld.of tok mixed ?_); conv => whnf) | ((with_reducible show ACall _ _ _ _ _); (refine ACall.of_pure (by assumption) (by rfl) ?_); conv => whnf) | ((with_reducible show Exists _); (refine ⟨_, ACall.of_pure (by assumption) (by rfl) ⟨rfl, rfl⟩, ?_⟩); conv => whnf) | ((with_reducible show ∃ L, drawR L _ = true ∧ _); (refine ⟨[], by kernel_rfl, ?_⟩); conv => whnf) | ((with_reducible show _ ∧ _ ∧ _); (refine ⟨by omega, by omega, ?_⟩); conv => whnf) | fail)
          rw [hn1 (i + 1) (by omega)]
          refine ⟨_, ACall.of_pure (q2 _ (by omega)) rfl ⟨rfl, rfl⟩, ?_⟩
          (conv => whnf); (repeat' first | ((with_reducible refine Box.mk ?_); conv => whnf) | ((with_reducible refine And.intro (fun _ => ?_) (fun _ => ?_)) <;> conv => whnf) | ((with_reducible show AYld _ _ _ _ _); (refine AYld.of tok mixed ?_); conv => whnf) | ((with_reducible show ACall _ _ _ _ _); (refine ACall.of_pure (by assumption) (by rfl) ?_); conv => whnf) | ((with_reducible show Exists _); (refine ⟨_, ACall.of_pure (by assumption) (by rfl) ⟨rfl, rfl⟩, ?_⟩); conv => whnf) | ((with_reducible show ∃ L, drawR L _ = true ∧ _); (refine ⟨[], by kernel_rfl, ?_⟩); conv => whnf) | ((with_reducible show _ ∧ _ ∧ _); (refine ⟨by omega, by omega, ?_⟩); conv => whnf) | fail)
          refine ⟨fun c hc => by rw [List.mem_singleton.1 hc]; exact ⟨rfl, rfl⟩, by rw [hl2]; show (i + 1 + 1) * 48 ≤ _; omega, by rw [hl2]; show i + 1 + 1 ≤ _; omega, ?_⟩
          (conv => whnf); (repeat' first | ((with_reducible refine Box.mk ?_); conv => whnf) | ((with_reducible refine And.intro (fun _ => ?_) (fun _ => ?_)) <;> conv => whnf) | ((with_reducible show AYld _ _ _ _ _); (refine AYld.of tok mixed ?_); conv => whnf) | ((with_reducible show ACall _ _ _ _ _); (refine ACall.of_pure (by assumption) (by rfl) ?_); conv => whnf) | ((with_reducible show Exists _); (refine ⟨_, ACall.of_pure (by assumption) (by rfl) ⟨rfl, rfl⟩, ?_⟩); conv => whnf) | ((with_reducible show ∃ L, drawR L _ = true ∧ _); (refine ⟨[], by kernel_rfl, ?_⟩); conv => whnf) | ((with_reducible show _ ∧ _ ∧ _); (refine ⟨by omega, by omega, ?_⟩); conv => whnf) | fail)
          refine ⟨i + 1 + 1, by omega, by omega, weak_ren_to [(0, true), (3, true)] rfl rfl ?_ ⟨rfl, rfl, rfl, rfl, congrArg (AV.int .i64) (e1 (i + 1) (by omega)), trivial⟩⟩
          show [_, Ob.row _ _ (kcl _ ++ [kcs _])] = [_, Ob.row _ _ (kcl _)]
          rw [← hnext (i + 1) (by omega)]
          rfl
        · rename_i h1
          rw [hdone (by omega)]; rfl
end Go.Proofs.YtoicobnbggkgbaaDoor
end

section
/- key: the statement on the keys over a key, and its arguments. -/
namespace Go.Proofs.YtoicobnbggkgbaaDoor
open Go.Ve

theorem kcl_take (l : List Ky) (m : Nat) : ((kcl l).take m).drop 0 = kcl (l.take m) := by simp [kcl, List.map_take]
theorem kcl_all (l : List Ky) : allLen 5 (kcl l) := by
  intro c hc
  simp only [kcl, List.mem_map] at hc
  obtain ⟨x, _, rfl⟩ := hc
  rfl
theorem KeyUps_ok (k : Ky) (most : Int) (hk : KOk 1048576 k) : PCall P 9 [kv k, .int .i64 most] (.bool true) := by
  have pk := hk.path
  have q1 := alive7_ok
  have q2 := first_ok k most hk.n (by omega)
  have q3 := rUp_ok k hk.n (by omega)
  generalize hU : upsK k = U at *
  have hall := kcl_all U
  have hUl : U.length ≤ 129 := by
    subst hU
    cases hr : rightK k
    · rw [upsK, hr, cond_false]; exact Nat.zero_le _
    · rw [upsK_len hr]; have := right_len hr; omega
  have hcl := kcl_len U
  have hget : ∀ (V : List Ky) (i : Nat), i < V.length → ∃ y, (kcl V)[(i : Int).toNat]? = some (kcs y) := fun V i h => ⟨V[i], by rw [kcl_get, Int.toNat_natCast, List.getElem?_eq_getElem h]; rfl⟩
  cases U with
  | nil =>
    rw [List.take_nil] at q2
    refine PCall.of_awp tok mixed fn9 (Nat.le_of_ble_eq_true rfl) ?_
    (conv => whnf); (repeat' first | ((with_reducible refine Box.mk ?_); conv => whnf) | ((with_reducible refine And.intro (fun _ => ?_) (fun _ => ?_)) <;> conv => whnf) | ((with_reducible show AYld _ _ _ _ _); (refine AYld.of tok mixed ?_); conv => whnf) | ((with_reducible show ACall _ _ _ _ _); (refine ACall.of_pure (by assumption) (by rfl) ?_); conv => whnf) | ((with_reducible show Exists _); (refine ⟨_, ACall.of_pure (by assumption) (by rfl) ⟨rfl, rfl⟩, ?_⟩); conv => whnf) | ((with_reducible show ∃ L, drawR L _ = true ∧ _); (refine ⟨[], by kernel_rfl, ?_⟩); conv => whnf) | ((with_reducible show _ ∧ _ ∧ _); (refine ⟨by omega, by omega, ?_⟩); conv => whnf) | fail)
    all_goals try (exfalso; omega)
    all_goals (
      refine aloopH (fun _ => True) (fun _ : Unit => [(5, .nils), (7, .nils), (8, .int .i64 0)]) (fun _ H => H) (fun _ => 0) () trivial (weak_to ⟨rfl, rfl, rfl, trivial⟩ rfl) ?_
      intro _ _
      (conv => whnf); (repeat' first | ((with_reducible refine Box.mk ?_); conv => whnf) | ((with_reducible refine And.intro (fun _ => ?_) (fun _ => ?_)) <;> conv => whnf) | ((with_reducible show AYld _ _ _ _ _); (refine AYld.of tok mixed ?_); conv => whnf) | ((with_reducible show ACall _ _ _ _ _); (refine ACall.of_pure (by assumption) (by rfl) ?_); conv => whnf) | ((with_reducible show Exists _); (refine ⟨_, ACall.of_pure (by assumption) (by rfl) ⟨rfl, rfl⟩, ?_⟩); conv => whnf) | ((with_reducible show ∃ L, drawR L _ = true ∧ _); (refine ⟨[], by kernel_rfl, ?_⟩); conv => whnf) | ((with_reducible show _ ∧ _ ∧ _); (refine ⟨by omega, by omega, ?_⟩); conv => whnf) | fail)
      all_goals first
        | rfl
        | (exfalso; omega))
  | cons x r =>
    have q3' := pEq q3 (kvl_sl (by simp))
    clear q3
    have hpos : 0 < (kcl (x :: r)).length := by rw [hcl]; simp
    have htl : ∀ m : Nat, (kcl ((x :: r).take m)).length = min m (kcl (x :: r)).length := fun m => by rw [kcl_len, kcl_len, List.length_take]
    generalize x :: r = U at *
    have hVU : ∀ m : Nat, (U.take m).length ≤ 129 := fun m => by rw [List.length_take]; omega
    by_cases hm : most ≤ 0
    · rw [show most.toNat = 0 by omega, List.take_zero] at q2
      refine PCall.of_awp tok mixed fn9 (Nat.le_of_ble_eq_true rfl) ?_
      (conv => whnf); (repeat' first | ((with_reducible refine Box.mk ?_); conv => whnf) | ((with_reducible refine And.intro (fun _ => ?_) (fun _ => ?_)) <;> conv => whnf) | ((with_reducible show AYld _ _ _ _ _); (refine AYld.of tok mixed ?_); conv => whnf) | ((with_reducible show ACall _ _ _ _ _); (refine ACall.of_pure (by assumption) (by rfl) ?_); conv => whnf) | ((with_reducible show Exists _); (refine ⟨_, ACall.of_pure (by assumption) (by rfl) ⟨rfl, rfl⟩, ?_⟩); conv => whnf) | ((with_reducible show ∃ L, drawR L _ = true ∧ _); (refine ⟨[], by kernel_rfl, ?_⟩); conv => whnf) | ((with_reducible show _ ∧ _ ∧ _); (refine ⟨by omega, by omega, ?_⟩); conv => whnf) | fail)
      all_goals try (exfalso; omega)
      all_goals (
        refine ⟨hall, ?_⟩
        rw [kcl_take]
        generalize hV : U.take _ = V
        have hV0 : (kcl V).length = 0 := by rw [← hV, htl]; omega
        (conv => whnf); (repeat' first | ((with_reducible refine Box.mk ?_); conv => whnf) | ((with_reducible refine And.intro (fun _ => ?_) (fun _ => ?_)) <;> conv => whnf) | ((with_reducible show AYld _ _ _ _ _); (refine AYld.of tok mixed ?_); conv => whnf) | ((with_reducible show ACall _ _ _ _ _); (refine ACall.of_pure (by assumption) (by rfl) ?_); conv => whnf) | ((with_reducible show Exists _); (refine ⟨_, ACall.of_pure (by assumption) (by rfl) ⟨rfl, rfl⟩, ?_⟩); conv => whnf) | ((with_reducible show ∃ L, drawR L _ = true ∧ _); (refine ⟨[], by kernel_rfl, ?_⟩); conv => whnf) | ((with_reducible show _ ∧ _ ∧ _); (refine ⟨by omega, by omega, ?_⟩); conv => whnf) | fail)
        all_goals try (exfalso; omega)
        refine aloopH (fun _ => True) (fun _ : Unit => [(5, .nils), (7, .sl (kcl V)), (8, .int .i64 0)]) (fun _ H => H) (fun _ => 0) () trivial (weak_to ⟨rfl, rfl, rfl, trivial⟩ rfl) ?_
        intro _ _
        (conv => whnf); (repeat' first | ((with_reducible refine Box.mk ?_); conv => whnf) | ((with_reducible refine And.intro (fun _ => ?_) (fun _ => ?_)) <;> conv => whnf) | ((with_reducible show AYld _ _ _ _ _); (refine AYld.of tok mixed ?_); conv => whnf) | ((with_reducible show ACall _ _ _ _ _); (refine ACall.of_pure (by assumption) (by rfl) ?_); conv => whnf) | ((with_reducible show Exists _); (refine ⟨_, ACall.of_pure (by assumption) (by rfl) ⟨rfl, rfl⟩, ?_⟩); conv => whnf) | ((with_reducible show ∃ L, drawR L _ = true ∧ _); (refine ⟨[], by kernel_rfl, ?_⟩); conv => whnf) | ((with_reducible show _ ∧ _ ∧ _); (refine ⟨by omega, by omega, ?_⟩); conv => whnf) | fail)
        all_goals first
          | rfl
          | (exfalso; omega))
    have q2' := pEq q2 (congrArg (fun v => AV.tup [v, .bool true]) (kvl_sl (l := U.take most.toNat) (by
      intro e
      have := congrArg List.length e
      rw [List.length_take, ← hcl] at this
      simp only [List.length_nil] at this
      omega)))
    clear q2
    by_cases hlt : most < ((kcl U).length : Int)
    · refine PCall.of_awp tok mixed fn9 (Nat.le_of_ble_eq_true rfl) ?_
      (conv => whnf); (repeat' first | ((with_reducible refine Box.mk ?_); conv => whnf) | ((with_reducible refine And.intro (fun _ => ?_) (fun _ => ?_)) <;> conv => whnf) | ((with_reducible show AYld _ _ _ _ _); (refine AYld.of tok mixed ?_); conv => whnf) | ((with_reducible show ACall _ _ _ _ _); (refine ACall.of_pure (by assumption) (by rfl) ?_); conv => whnf) | ((with_reducible show Exists _); (refine ⟨_, ACall.of_pure (by assumption) (by rfl) ⟨rfl, rfl⟩, ?_⟩); conv => whnf) | ((with_reducible show ∃ L, drawR L _ = true ∧ _); (refine ⟨[], by kernel_rfl, ?_⟩); conv => whnf) | ((with_reducible show _ ∧ _ ∧ _); (refine ⟨by omega, by omega, ?_⟩); conv => whnf) | fail)
      all_goals try (exfalso; omega)
      refine ⟨hall, ?_⟩
      rw [kcl_take]
      have hV9 := hVU most.toNat
      generalize hV : U.take most.toNat = V at *
      have hVl := kcl_len V
      (conv => whnf); (repeat' first | ((with_reducible refine Box.mk ?_); conv => whnf) | ((with_reducible refine And.intro (fun _ => ?_) (fun _ => ?_)) <;> conv => whnf) | ((with_reducible show AYld _ _ _ _ _); (refine AYld.of tok mixed ?_); conv => whnf) | ((with_reducible show ACall _ _ _ _ _); (refine ACall.of_pure (by assumption) (by rfl) ?_); conv => whnf) | ((with_reducible show Exists _); (refine ⟨_, ACall.of_pure (by assumption) (by rfl) ⟨rfl, rfl⟩, ?_⟩); conv => whnf) | ((with_reducible show ∃ L, drawR L _ = true ∧ _); (refine ⟨[], by kernel_rfl, ?_⟩); conv => whnf) | ((with_reducible show _ ∧ _ ∧ _); (refine ⟨by omega, by omega, ?_⟩); conv => whnf) | fail)
      all_goals try contradiction
      refine aloopH (fun i : Nat => i ≤ V.length) (fun i : Nat => [(5, .sl (kcl V)), (7, .sl (kcl V)), (8, .int .i64 i)]) (fun _ H => H) (fun i => V.length - i) 0 (Nat.zero_le _) (weak_to ⟨rfl, rfl, rfl, trivial⟩ rfl) ?_
      intro i hi
      (conv => whnf); (repeat' first | ((with_reducible refine Box.mk ?_); conv => whnf) | ((with_reducible refine And.intro (fun _ => ?_) (fun _ => ?_)) <;> conv => whnf) | ((with_reducible show AYld _ _ _ _ _); (refine AYld.of tok mixed ?_); conv => whnf) | ((with_reducible show ACall _ _ _ _ _); (refine ACall.of_pure (by assumption) (by rfl) ?_); conv => whnf) | ((with_reducible show Exists _); (refine ⟨_, ACall.of_pure (by assumption) (by rfl) ⟨rfl, rfl⟩, ?_⟩); conv => whnf) | ((with_reducible show ∃ L, drawR L _ = true ∧ _); (refine ⟨[], by kernel_rfl, ?_⟩); conv => whnf) | ((with_reducible show _ ∧ _ ∧ _); (refine ⟨by omega, by omega, ?_⟩); conv => whnf) | fail)
      · rename_i h
        have hiv : i < V.length := by omega
        obtain ⟨y, hy⟩ := hget V i hiv
        refine ⟨by omega, _, hy, rfl, ?_⟩
        (conv => whnf); (repeat' first | ((with_reducible refine Box.mk ?_); conv => whnf) | ((with_reducible refine And.intro (fun _ => ?_) (fun _ => ?_)) <;> conv => whnf) | ((with_reducible show AYld _ _ _ _ _); (refine AYld.of tok mixed ?_); conv => whnf) | ((with_reducible show ACall _ _ _ _ _); (refine ACall.of_pure (by assumption) (by rfl) ?_); conv => whnf) | ((with_reducible show Exists _); (refine ⟨_, ACall.of_pure (by assumption) (by rfl) ⟨rfl, rfl⟩, ?_⟩); conv => whnf) | ((with_reducible show ∃ L, drawR L _ = true ∧ _); (refine ⟨[], by kernel_rfl, ?_⟩); conv => whnf) | ((with_reducible show _ ∧ _ ∧ _); (refine ⟨by omega, by omega, ?_⟩); conv => whnf) | fail)
        refine ⟨by omega, _, hy, rfl, ?_⟩
        (conv => whnf); (repeat' first | ((with_reducible refine Box.mk ?_); conv => whnf) | ((with_reducible refine And.intro (fun _ => ?_) (fun _ => ?_)) <;> conv => whnf) | ((with_reducible show AYld _ _ _ _ _); (refine AYld.of tok mixed ?_); conv => whnf) | ((with_reducible show ACall _ _ _ _ _); (refine ACall.of_pure (by assumption) (by rfl) ?_); conv => whnf) | ((with_reducible show Exists _); (refine ⟨_, ACall.of_pure (by assumption) (by rfl) ⟨rfl, rfl⟩, ?_⟩); conv => whnf) | ((with_reducible show ∃ L, drawR L _ = true ∧ _); (refine ⟨[], by kernel_rfl, ?_⟩); conv => whnf) | ((with_reducible show _ ∧ _ ∧ _); (refine ⟨by omega, by omega, ?_⟩); conv => whnf) | fail)
        · exact ⟨i + 1, hiv, by omega, weak_to ⟨rfl, rfl, wrap_nat (m := 1) (by omega), trivial⟩ rfl⟩
        · rename_i hbad; exact absurd (⟨rfl, rfl, rfl, rfl, rfl⟩ : _ ∧ _ ∧ _ ∧ _ ∧ _) hbad
      · rfl
    · rw [List.take_of_length_le (by omega)] at q2'
      refine PCall.of_awp tok mixed fn9 (Nat.le_of_ble_eq_true rfl) ?_
      (conv => whnf); (repeat' first | ((with_reducible refine Box.mk ?_); conv => whnf) | ((with_reducible refine And.intro (fun _ => ?_) (fun _ => ?_)) <;> conv => whnf) | ((with_reducible show AYld _ _ _ _ _); (refine AYld.of tok mixed ?_); conv => whnf) | ((with_reducible show ACall _ _ _ _ _); (refine ACall.of_pure (by assumption) (by rfl) ?_); conv => whnf) | ((with_reducible show Exists _); (refine ⟨_, ACall.of_pure (by assumption) (by rfl) ⟨rfl, rfl⟩, ?_⟩); conv => whnf) | ((with_reducible show ∃ L, drawR L _ = true ∧ _); (refine ⟨[], by kernel_rfl, ?_⟩); conv => whnf) | ((with_reducible show _ ∧ _ ∧ _); (refine ⟨by omega, by omega, ?_⟩); conv => whnf) | fail)
      all_goals try (exfalso; omega)
      generalize hV : U = V at *
      have hVl := kcl_len V
      refine aloopH (fun i : Nat => i ≤ V.length) (fun i : Nat => [(5, .sl (kcl V)), (7, .sl (kcl V)), (8, .int .i64 i)]) (fun _ H => H) (fun i => V.length - i) 0 (Nat.zero_le _) (weak_to ⟨rfl, rfl, rfl, trivial⟩ rfl) ?_
      intro i hi
      (conv => whnf); (repeat' first | ((with_reducible refine Box.mk ?_); conv => whnf) | ((with_reducible refine And.intro (fun _ => ?_) (fun _ => ?_)) <;> conv => whnf) | ((with_reducible show AYld _ _ _ _ _); (refine AYld.of tok mixed ?_); conv => whnf) | ((with_reducible show ACall _ _ _ _ _); (refine ACall.of_pure (by assumption) (by rfl) ?_); conv => whnf) | ((with_reducible show Exists _); (refine ⟨_, ACall.of_pure (by assumption) (by rfl) ⟨rfl, rfl⟩, ?_⟩); conv => whnf) | ((with_reducible show ∃ L, drawR L _ = true ∧ _); (refine ⟨[], by kernel_rfl, ?_⟩); conv => whnf) | ((with_reducible show _ ∧ _ ∧ _); (refine ⟨by omega, by omega, ?_⟩); conv => whnf) | fail)
      · rename_i h
        have hiv : i < V.length := by omega
        obtain ⟨y, hy⟩ := hget V i hiv
        refine ⟨by omega, _, hy, rfl, ?_⟩
        (conv => whnf); (repeat' first | ((with_reducible refine Box.mk ?_); conv => whnf) | ((with_reducible refine And.intro (fun _ => ?_) (fun _ => ?_)) <;> conv => whnf) | ((with_reducible show AYld _ _ _ _ _); (refine AYld.of tok mixed ?_); conv => whnf) | ((with_reducible show ACall _ _ _ _ _); (refine ACall.of_pure (by assumption) (by rfl) ?_); conv => whnf) | ((with_reducible show Exists _); (refine ⟨_, ACall.of_pure (by assumption) (by rfl) ⟨rfl, rfl⟩, ?_⟩); conv => whnf) | ((with_reducible show ∃ L, drawR L _ = true ∧ _); (refine ⟨[], by kernel_rfl, ?_⟩); conv => whnf) | ((with_reducible show _ ∧ _ ∧ _); (refine ⟨by omega, by omega, ?_⟩); conv => whnf) | fail)
        refine ⟨by omega, _, hy, rfl, ?_⟩
        (conv => whnf); (repeat' first | ((with_reducible refine Box.mk ?_); conv => whnf) | ((with_reducible refine And.intro (fun _ => ?_) (fun _ => ?_)) <;> conv => whnf) | ((with_reducible show AYld _ _ _ _ _); (refine AYld.of tok mixed ?_); conv => whnf) | ((with_reducible show ACall _ _ _ _ _); (refine ACall.of_pure (by assumption) (by rfl) ?_); conv => whnf) | ((with_reducible show Exists _); (refine ⟨_, ACall.of_pure (by assumption) (by rfl) ⟨rfl, rfl⟩, ?_⟩); conv => whnf) | ((with_reducible show ∃ L, drawR L _ = true ∧ _); (refine ⟨[], by kernel_rfl, ?_⟩); conv => whnf) | ((with_reducible show _ ∧ _ ∧ _); (refine ⟨by omega, by omega, ?_⟩); conv => whnf) | fail)
        · exact ⟨i + 1, hiv, by omega, weak_to ⟨rfl, rfl, wrap_nat (m := 1) (by omega), trivial⟩ rfl⟩
        · rename_i hbad; exact absurd (⟨rfl, rfl, rfl, rfl, rfl⟩ : _ ∧ _ ∧ _ ∧ _ ∧ _) hbad
      · rfl
theorem KeyUps_args (xs : List AV) (h : WfA ty 1048576 [24, 3] xs) : PCall P 9 xs (.bool true) := by
  obtain ⟨y1, r1, rfl, g1, h1⟩ := h.cons_inv
  obtain ⟨y2, r2, rfl, g2, h2⟩ := h1.cons_inv
  obtain rfl := h2.nil_inv
  obtain ⟨x1, rfl, f1⟩ := key_inv g1
  obtain ⟨x2, rfl, _⟩ := g2.int_inv rfl
  exact KeyUps_ok x1 x2 f1
end Go.Proofs.YtoicobnbggkgbaaDoor
end
