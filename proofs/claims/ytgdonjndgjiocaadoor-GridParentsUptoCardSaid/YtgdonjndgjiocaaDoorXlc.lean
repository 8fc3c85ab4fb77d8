/- The program's contracts: texts joined into one: LawPre LawGrid ArgsPre LawGrid2 LawGrid3 ArgsGrid. -/
import Derived.Test.YtgdonjndgjiocaaDoorXla
import Derived.Test.YtgdonjndgjiocaaDoorXlb

section
/- prefix: what must come of fixed calls. -/
namespace Go.Proofs.YtgdonjndgjiocaaDoor
open Go.Ve

def dA : Dm := ⟨1, 1, 8⟩
def dB : Dm := ⟨1, 2, 8⟩
def sF : Sp := ⟨2, dA, dB⟩
def ky (a : Nat) : Ky := ⟨1, 32, a * 2 ^ 96, []⟩
theorem four_okL : PCall P 37 [] (spv sF) := by
  refine PCall.of_awp tok mixed fn37 (Nat.le_of_ble_eq_true rfl) ?_
  (conv => whnf); (repeat' first | ((with_reducible refine Box.mk ?_); conv => whnf) | ((with_reducible refine And.intro (fun _ => ?_) (fun _ => ?_)) <;> conv => whnf) | ((with_reducible show AYld _ _ _ _ _); (refine AYld.of tok mixed ?_); conv => whnf) | ((with_reducible show forceH _ _); (refine (forceH_eq _ _).mpr ?_); conv => whnf) | ((with_reducible show ACall _ _ _ _ _); (refine ACall.of_pure (by assumption) (by rfl) ?_); conv => whnf) | ((with_reducible show Exists _); (refine ⟨_, ACall.of_pure (by assumption) (by rfl) ⟨rfl, rfl⟩, ?_⟩); conv => whnf) | ((with_reducible show ∃ L, drawR L _ = true ∧ _); (refine ⟨[], by kernel_rfl, ?_⟩); conv => whnf) | ((with_reducible show _ ∧ _ ∧ _); (refine ⟨by omega, by omega, ?_⟩); conv => whnf) | fail)
  rfl
def pF : Px := ⟨0, 0, ⟨1, 32, 167837953 * 2 ^ 96, []⟩, ⟨1, 32, 3232235777 * 2 ^ 96, []⟩⟩
def aF : Px := ⟨3, 4, ⟨1, 8, 10 * 2 ^ 120, []⟩, ⟨1, 0, 0, []⟩⟩
def bF : Px := ⟨4, 2, ⟨1, 0, 0, []⟩, ⟨1, 16, 49320 * 2 ^ 112, []⟩⟩
def xF : Px := ⟨3, 2, ⟨1, 8, 10 * 2 ^ 120, []⟩, ⟨1, 16, 49320 * 2 ^ 112, []⟩⟩
def tF : Px := ⟨4, 4, ⟨1, 0, 0, []⟩, ⟨1, 0, 0, []⟩⟩
theorem kp0 {p : Px} (h1 : p.k0.n < 2 ^ 128) (h2 : p.k1.n < 2 ^ 128) (h3 : p.k0.path = []) (h4 : p.k1.path = []) : POk p := ⟨h1, h2, by rw [h3]; exact Nat.zero_le _, by rw [h4]; exact Nat.zero_le _⟩
theorem pF_ok : POk pF := kp0 (by decide) (by decide) rfl rfl
theorem aF_ok : POk aF := kp0 (by decide) (by decide) rfl rfl
theorem bF_ok : POk bF := kp0 (by decide) (by decide) rfl rfl
theorem xF_ok : POk xF := kp0 (by decide) (by decide) rfl rfl
theorem tF_ok : POk tF := kp0 (by decide) (by decide) rfl rfl
theorem alive9_ok : PCall P 13 [] (.bool true) := by
  have c0 := four_okL
  have c1 := pEq (four_ok 167837953 (by decide)) (show _ = kv pF.k0 from rfl)
  have c2 := pEq (four_ok 3232235777 (by decide)) (show _ = kv pF.k1 from rfl)
  have c3 := pEq (leaf_ok sF pF.k0 pF.k1 pF_ok) (show _ = AV.tup [pxv pF, .bool true] by kernel_rfl)
  have c4 := pEq (up_ok sF pF 3 4 pF_ok) (show _ = pxv aF by kernel_rfl)
  have c5 := pEq (up_ok sF pF 4 2 pF_ok) (show _ = pxv bF by kernel_rfl)
  have c6 := pEq (cross_ok sF aF bF aF_ok bF_ok) (show _ = AV.tup [pxv xF, .bool true] by kernel_rfl)
  have c7 := pEq (four_ok 1 (by decide)) (show _ = kv (ky 1) from rfl)
  have c8 := pEq (leaf_ok sF (ky 1) zeroK (kp0 (by decide) (by decide) rfl rfl)) (show _ = AV.tup [pxv zeroP, .bool false] by kernel_rfl)
  have c9 := pEq (top_okP sF) (show _ = pxv tF by kernel_rfl)
  have d1 := pEq (sound_ok sF) (show _ = AV.bool true by kernel_rfl)
  have d2 := pEq (sound_ok ⟨3, dA, dB⟩) (show _ = AV.bool false by kernel_rfl)
  have d3 := pEq (up_ok sF pF 3 2 pF_ok) (show _ = pxv xF by kernel_rfl)
  have d4 := pEq (height_ok sF xF xF_ok) (show _ = AV.int .i64 5 by kernel_rfl)
  have d5 := pEq (pOver_ok sF tF pF tF_ok pF_ok) (show _ = AV.bool true by kernel_rfl)
  have d6 := pEq (pOver_ok sF pF tF pF_ok tF_ok) (show _ = AV.bool false by kernel_rfl)
  have d7 := pEq (pCmp_ok pF tF) (show _ = AV.int .i64 (-1) by kernel_rfl)
  have d8 := pEq (pRight_ok sF xF xF_ok) (show _ = AV.bool true by kernel_rfl)
  refine PCall.of_awp tok mixed fn13 (Nat.le_of_ble_eq_true rfl) ?_
  (conv => whnf); (repeat' first | ((with_reducible refine Box.mk ?_); conv => whnf) | ((with_reducible refine And.intro (fun _ => ?_) (fun _ => ?_)) <;> conv => whnf) | ((with_reducible show AYld _ _ _ _ _); (refine AYld.of tok mixed ?_); conv => whnf) | ((with_reducible show forceH _ _); (refine (forceH_eq _ _).mpr ?_); conv => whnf) | ((with_reducible show ACall _ _ _ _ _); (refine ACall.of_pure (by assumption) (by rfl) ?_); conv => whnf) | ((with_reducible show Exists _); (refine ⟨_, ACall.of_pure (by assumption) (by rfl) ⟨rfl, rfl⟩, ?_⟩); conv => whnf) | ((with_reducible show _ ∧ _ ∧ _); (refine ⟨by omega, by omega, ?_⟩); conv => whnf) | fail)
  refine ⟨[(7, [0, 1, 2, 3])], by kernel_rfl, ?_⟩
  (conv => whnf); (repeat' first | ((with_reducible refine Box.mk ?_); conv => whnf) | ((with_reducible refine And.intro (fun _ => ?_) (fun _ => ?_)) <;> conv => whnf) | ((with_reducible show AYld _ _ _ _ _); (refine AYld.of tok mixed ?_); conv => whnf) | ((with_reducible show forceH _ _); (refine (forceH_eq _ _).mpr ?_); conv => whnf) | ((with_reducible show ACall _ _ _ _ _); (refine ACall.of_pure (by assumption) (by rfl) ?_); conv => whnf) | ((with_reducible show Exists _); (refine ⟨_, ACall.of_pure (by assumption) (by rfl) ⟨rfl, rfl⟩, ?_⟩); conv => whnf) | ((with_reducible show _ ∧ _ ∧ _); (refine ⟨by omega, by omega, ?_⟩); conv => whnf) | fail)
  (refine And.intro ?_ ?_); (focus ((conv => whnf); (repeat' first | exact trivial | ((refine And.intro ?_ ?_); (focus ((conv => whnf); (first | exact ⟨rfl, rfl⟩ | exact ⟨by decide, by decide, rfl, rfl⟩ | ((refine ACall.of_pure (by assumption) (by rfl) ?_); (refine And.intro ?_ ?_ <;> rfl))))); (conv => whnf)))))
  (conv => whnf); (repeat' first | ((with_reducible refine Box.mk ?_); conv => whnf) | ((with_reducible refine And.intro (fun _ => ?_) (fun _ => ?_)) <;> conv => whnf) | ((with_reducible show AYld _ _ _ _ _); (refine AYld.of tok mixed ?_); conv => whnf) | ((with_reducible show forceH _ _); (refine (forceH_eq _ _).mpr ?_); conv => whnf) | ((with_reducible show ACall _ _ _ _ _); (refine ACall.of_pure (by assumption) (by rfl) ?_); conv => whnf) | ((with_reducible show Exists _); (refine ⟨_, ACall.of_pure (by assumption) (by rfl) ⟨rfl, rfl⟩, ?_⟩); conv => whnf) | ((with_reducible show _ ∧ _ ∧ _); (refine ⟨by omega, by omega, ?_⟩); conv => whnf) | fail)
  refine ⟨[(8, [0, 1, 3, 4, 5, 7]), (9, [0, 1, 3, 4, 5, 7]), (1008, [])], by kernel_rfl, ?_⟩
  (conv => whnf); (repeat' first | ((with_reducible refine Box.mk ?_); conv => whnf) | ((with_reducible refine And.intro (fun _ => ?_) (fun _ => ?_)) <;> conv => whnf) | ((with_reducible show AYld _ _ _ _ _); (refine AYld.of tok mixed ?_); conv => whnf) | ((with_reducible show forceH _ _); (refine (forceH_eq _ _).mpr ?_); conv => whnf) | ((with_reducible show ACall _ _ _ _ _); (refine ACall.of_pure (by assumption) (by rfl) ?_); conv => whnf) | ((with_reducible show Exists _); (refine ⟨_, ACall.of_pure (by assumption) (by rfl) ⟨rfl, rfl⟩, ?_⟩); conv => whnf) | ((with_reducible show _ ∧ _ ∧ _); (refine ⟨by omega, by omega, ?_⟩); conv => whnf) | fail)
  (refine And.intro ?_ ?_); (focus ((conv => whnf); (repeat' first | exact trivial | ((refine And.intro ?_ ?_); (focus ((conv => whnf); (first | exact ⟨rfl, rfl⟩ | exact ⟨by decide, by decide, rfl, rfl⟩ | ((refine ACall.of_pure (by assumption) (by rfl) ?_); (refine And.intro ?_ ?_ <;> rfl))))); (conv => whnf)))))
  (conv => whnf); (repeat' first | ((with_reducible refine Box.mk ?_); conv => whnf) | ((with_reducible refine And.intro (fun _ => ?_) (fun _ => ?_)) <;> conv => whnf) | ((with_reducible show AYld _ _ _ _ _); (refine AYld.of tok mixed ?_); conv => whnf) | ((with_reducible show forceH _ _); (refine (forceH_eq _ _).mpr ?_); conv => whnf) | ((with_reducible show ACall _ _ _ _ _); (refine ACall.of_pure (by assumption) (by rfl) ?_); conv => whnf) | ((with_reducible show Exists _); (refine ⟨_, ACall.of_pure (by assumption) (by rfl) ⟨rfl, rfl⟩, ?_⟩); conv => whnf) | ((with_reducible show _ ∧ _ ∧ _); (refine ⟨by omega, by omega, ?_⟩); conv => whnf) | fail)
  (refine And.intro ?_ ?_); (focus ((conv => whnf); (repeat' first | exact trivial | ((refine And.intro ?_ ?_); (focus ((conv => whnf); (first | exact ⟨rfl, rfl⟩ | exact ⟨by decide, by decide, rfl, rfl⟩ | ((refine ACall.of_pure (by assumption) (by rfl) ?_); (refine And.intro ?_ ?_ <;> rfl))))); (conv => whnf)))))
  (conv => whnf); (repeat' first | ((with_reducible refine Box.mk ?_); conv => whnf) | ((with_reducible refine And.intro (fun _ => ?_) (fun _ => ?_)) <;> conv => whnf) | ((with_reducible show AYld _ _ _ _ _); (refine AYld.of tok mixed ?_); conv => whnf) | ((with_reducible show forceH _ _); (refine (forceH_eq _ _).mpr ?_); conv => whnf) | ((with_reducible show ACall _ _ _ _ _); (refine ACall.of_pure (by assumption) (by rfl) ?_); conv => whnf) | ((with_reducible show Exists _); (refine ⟨_, ACall.of_pure (by assumption) (by rfl) ⟨rfl, rfl⟩, ?_⟩); conv => whnf) | ((with_reducible show _ ∧ _ ∧ _); (refine ⟨by omega, by omega, ?_⟩); conv => whnf) | fail)
  refine ⟨[(7, [0, 1, 3])], by kernel_rfl, ?_⟩
  (conv => whnf); (repeat' first | ((with_reducible refine Box.mk ?_); conv => whnf) | ((with_reducible refine And.intro (fun _ => ?_) (fun _ => ?_)) <;> conv => whnf) | ((with_reducible show AYld _ _ _ _ _); (refine AYld.of tok mixed ?_); conv => whnf) | ((with_reducible show forceH _ _); (refine (forceH_eq _ _).mpr ?_); conv => whnf) | ((with_reducible show ACall _ _ _ _ _); (refine ACall.of_pure (by assumption) (by rfl) ?_); conv => whnf) | ((with_reducible show Exists _); (refine ⟨_, ACall.of_pure (by assumption) (by rfl) ⟨rfl, rfl⟩, ?_⟩); conv => whnf) | ((with_reducible show _ ∧ _ ∧ _); (refine ⟨by omega, by omega, ?_⟩); conv => whnf) | fail)
  (refine And.intro ?_ ?_); (focus ((conv => whnf); (repeat' first | exact trivial | ((refine And.intro ?_ ?_); (focus ((conv => whnf); (first | exact ⟨rfl, rfl⟩ | exact ⟨by decide, by decide, rfl, rfl⟩ | ((refine ACall.of_pure (by assumption) (by rfl) ?_); (refine And.intro ?_ ?_ <;> rfl))))); (conv => whnf)))))
  (conv => whnf); (repeat' first | ((with_reducible refine Box.mk ?_); conv => whnf) | ((with_reducible refine And.intro (fun _ => ?_) (fun _ => ?_)) <;> conv => whnf) | ((with_reducible show AYld _ _ _ _ _); (refine AYld.of tok mixed ?_); conv => whnf) | ((with_reducible show forceH _ _); (refine (forceH_eq _ _).mpr ?_); conv => whnf) | ((with_reducible show ACall _ _ _ _ _); (refine ACall.of_pure (by assumption) (by rfl) ?_); conv => whnf) | ((with_reducible show Exists _); (refine ⟨_, ACall.of_pure (by assumption) (by rfl) ⟨rfl, rfl⟩, ?_⟩); conv => whnf) | ((with_reducible show ∃ L, drawR L _ = true ∧ _); (refine ⟨[], by kernel_rfl, ?_⟩); conv => whnf) | ((with_reducible show _ ∧ _ ∧ _); (refine ⟨by omega, by omega, ?_⟩); conv => whnf) | fail)
  all_goals first
    | rfl
    | contradiction
    | skip
  all_goals trace_state
end Go.Proofs.YtgdonjndgjiocaaDoor
end

section
/- grid: what must come of fixed calls; the statements on the document's answers. -/
namespace Go.Proofs.YtgdonjndgjiocaaDoor
open Go.Ve

def sG : Sp := ⟨2, ⟨1, 1, 16⟩, ⟨1, 2, 16⟩⟩
def pG : Px := ⟨0, 0, ky 1, ky 2⟩
def kG (a : Nat) : Nat → Ky
  | 0 => ky a
  | 1 => ⟨1, 16, 0, []⟩
  | _ => ⟨1, 0, 0, []⟩
def xG (i j : Nat) : Px := ⟨i, j, kG 1 i, kG 2 j⟩
def aG : List Px := [xG 0 0, xG 0 1, xG 1 0, xG 0 2, xG 1 1, xG 2 0, xG 1 2, xG 2 1, xG 2 2]
def nG : List (Nat × Nat) := [(0, 0), (0, 1), (1, 0), (0, 2), (1, 1), (2, 0), (1, 2), (2, 1), (2, 2)]
theorem pG_ok : POk pG := kp0 (by decide) (by decide) rfl rfl
theorem alive10_ok : PCall P 15 [] (.bool true) := by
  have c1 := pEq (four_ok 1 (by decide)) (show _ = kv (ky 1) from rfl)
  have c2 := pEq (four_ok 2 (by decide)) (show _ = kv (ky 2) from rfl)
  have c3 := pEq (leaf_ok sG (ky 1) (ky 2) pG_ok) (show _ = AV.tup [pxv pG, .bool true] by kernel_rfl)
  have c4 := pEq (gAll_ok sG pG pG_ok) (show _ = AV.sl (pcl aG) by kernel_rfl)
  have c5 := pEq (gParents_ok sG pG pG_ok) (show _ = AV.sl (pcl [xG 1 0, xG 0 1]) by kernel_rfl)
  have c6 := pEq (count_ok sG) (show _ = AV.int .i64 9 by kernel_rfl)
  have c7 := pEq (gPlace_ok sG 1 1) (show _ = AV.int .i64 4 by kernel_rfl)
  have c8 := pEq (tall_ok sG) (show _ = AV.int .i64 4 by kernel_rfl)
  have c9 := pEq (gOn_ok sG 1) (show _ = AV.sl (ncl [(0, 1), (1, 0)]) by kernel_rfl)
  have c10 := pEq (gNodes_ok sG) (show _ = AV.sl (ncl nG) by kernel_rfl)
  have c11 := pEq (top_okP sG) (show _ = pxv (xG 2 2) by kernel_rfl)
  have c12 := pEq (up_ok sG pG 1 0 pG_ok) (show _ = pxv (xG 1 0) by kernel_rfl)
  have c13 := pEq (gPlace_ok sG 3 0) (show _ = AV.int .i64 (-1) by kernel_rfl)
  refine PCall.of_awp tok mixed fn15 (Nat.le_of_ble_eq_true rfl) ?_
  (conv => whnf); (repeat' first | ((with_reducible refine Box.mk ?_); conv => whnf) | ((with_reducible refine And.intro (fun _ => ?_) (fun _ => ?_)) <;> conv => whnf) | ((with_reducible show AYld _ _ _ _ _); (refine AYld.of tok mixed ?_); conv => whnf) | ((with_reducible show forceH _ _); (refine (forceH_eq _ _).mpr ?_); conv => whnf) | ((with_reducible show ACall _ _ _ _ _); (refine ACall.of_pure (by assumption) (by rfl) ?_); conv => whnf) | ((with_reducible show Exists _); (refine ⟨_, ACall.of_pure (by assumption) (by rfl) ⟨rfl, rfl⟩, ?_⟩); conv => whnf) | ((with_reducible show _ ∧ _ ∧ _); (refine ⟨by omega, by omega, ?_⟩); conv => whnf) | fail)
  refine ⟨[(7, [0, 1, 2, 3])], by kernel_rfl, ?_⟩
  (conv => whnf); (repeat' first | ((with_reducible refine Box.mk ?_); conv => whnf) | ((with_reducible refine And.intro (fun _ => ?_) (fun _ => ?_)) <;> conv => whnf) | ((with_reducible show AYld _ _ _ _ _); (refine AYld.of tok mixed ?_); conv => whnf) | ((with_reducible show forceH _ _); (refine (forceH_eq _ _).mpr ?_); conv => whnf) | ((with_reducible show ACall _ _ _ _ _); (refine ACall.of_pure (by assumption) (by rfl) ?_); conv => whnf) | ((with_reducible show Exists _); (refine ⟨_, ACall.of_pure (by assumption) (by rfl) ⟨rfl, rfl⟩, ?_⟩); conv => whnf) | ((with_reducible show _ ∧ _ ∧ _); (refine ⟨by omega, by omega, ?_⟩); conv => whnf) | fail)
  (refine And.intro ?_ ?_); (focus ((conv => whnf); (repeat' first | exact trivial | ((refine And.intro ?_ ?_); (focus ((conv => whnf); (first | exact ⟨rfl, rfl⟩ | exact ⟨by decide, by decide, rfl, rfl⟩ | ((refine ACall.of_pure (by assumption) (by rfl) ?_); (refine And.intro ?_ ?_ <;> rfl))))); (conv => whnf)))))
  (conv => whnf); (repeat' first | ((with_reducible refine Box.mk ?_); conv => whnf) | ((with_reducible refine And.intro (fun _ => ?_) (fun _ => ?_)) <;> conv => whnf) | ((with_reducible show AYld _ _ _ _ _); (refine AYld.of tok mixed ?_); conv => whnf) | ((with_reducible show forceH _ _); (refine (forceH_eq _ _).mpr ?_); conv => whnf) | ((with_reducible show ACall _ _ _ _ _); (refine ACall.of_pure (by assumption) (by rfl) ?_); conv => whnf) | ((with_reducible show Exists _); (refine ⟨_, ACall.of_pure (by assumption) (by rfl) ⟨rfl, rfl⟩, ?_⟩); conv => whnf) | ((with_reducible show ∃ L, drawR L _ = true ∧ _); (refine ⟨[], by kernel_rfl, ?_⟩); conv => whnf) | ((with_reducible show _ ∧ _ ∧ _); (refine ⟨by omega, by omega, ?_⟩); conv => whnf) | fail)
  all_goals try (rename_i hbad; exact absurd (by decide) hbad)
  all_goals try (rename_i hbad; exact absurd rfl hbad)
  refine ⟨by decide, pcs (xG 2 2), rfl, rfl, ?_⟩
  (conv => whnf); (repeat' first | ((with_reducible refine Box.mk ?_); conv => whnf) | ((with_reducible refine And.intro (fun _ => ?_) (fun _ => ?_)) <;> conv => whnf) | ((with_reducible show AYld _ _ _ _ _); (refine AYld.of tok mixed ?_); conv => whnf) | ((with_reducible show forceH _ _); (refine (forceH_eq _ _).mpr ?_); conv => whnf) | ((with_reducible show ACall _ _ _ _ _); (refine ACall.of_pure (by assumption) (by rfl) ?_); conv => whnf) | ((with_reducible show Exists _); (refine ⟨_, ACall.of_pure (by assumption) (by rfl) ⟨rfl, rfl⟩, ?_⟩); conv => whnf) | ((with_reducible show ∃ L, drawR L _ = true ∧ _); (refine ⟨[], by kernel_rfl, ?_⟩); conv => whnf) | ((with_reducible show _ ∧ _ ∧ _); (refine ⟨by omega, by omega, ?_⟩); conv => whnf) | fail)
  all_goals try (rename_i hbad; exact absurd (⟨rfl, rfl, rfl, rfl, rfl, rfl, rfl, rfl, rfl, rfl, rfl, rfl⟩ : _ ∧ _ ∧ _ ∧ _ ∧ _ ∧ _ ∧ _ ∧ _ ∧ _ ∧ _ ∧ _ ∧ _) hbad)
  all_goals try (rename_i hbad; exact absurd (by decide) hbad)
  refine ⟨by decide, pcs (xG 1 0), rfl, rfl, ?_⟩
  (conv => whnf); (repeat' first | ((with_reducible refine Box.mk ?_); conv => whnf) | ((with_reducible refine And.intro (fun _ => ?_) (fun _ => ?_)) <;> conv => whnf) | ((with_reducible show AYld _ _ _ _ _); (refine AYld.of tok mixed ?_); conv => whnf) | ((with_reducible show forceH _ _); (refine (forceH_eq _ _).mpr ?_); conv => whnf) | ((with_reducible show ACall _ _ _ _ _); (refine ACall.of_pure (by assumption) (by rfl) ?_); conv => whnf) | ((with_reducible show Exists _); (refine ⟨_, ACall.of_pure (by assumption) (by rfl) ⟨rfl, rfl⟩, ?_⟩); conv => whnf) | ((with_reducible show ∃ L, drawR L _ = true ∧ _); (refine ⟨[], by kernel_rfl, ?_⟩); conv => whnf) | ((with_reducible show _ ∧ _ ∧ _); (refine ⟨by omega, by omega, ?_⟩); conv => whnf) | fail)
  all_goals try (rename_i hbad; exact absurd (⟨rfl, rfl, rfl, rfl, rfl, rfl, rfl, rfl, rfl, rfl, rfl, rfl⟩ : _ ∧ _ ∧ _ ∧ _ ∧ _ ∧ _ ∧ _ ∧ _ ∧ _ ∧ _ ∧ _ ∧ _) hbad)
  all_goals try (rename_i hbad; exact absurd rfl hbad)
  rfl
theorem on_eq (s : Sp) (h : Int) : (nds s).filter (fun p => decide (((p.1 + p.2 : Nat) : Int) = h)) = (bif soundS s && decide (0 ≤ h ∧ h ≤ ((gA s + gB s : Nat) : Int)) then rowN (gA s) (gB s) h.toNat else []) := by
  cases hs : soundS s
  · rw [nds_no hs]; rfl
  · rw [nds_yes hs, Bool.true_and]
    by_cases hh : 0 ≤ h
    · obtain ⟨k, rfl⟩ : ∃ k : Nat, h = k := ⟨h.toNat, by omega⟩
      have e : (fun p : Nat × Nat => decide (((p.1 + p.2 : Nat) : Int) = (k : Int))) = fun p => decide (p.1 + p.2 = k) := by
        funext p; exact decide_eq_decide.2 (by omega)
      rw [e, filter_nodes, Int.toNat_natCast]
      by_cases h2 : (k : Int) ≤ ((gA s + gB s : Nat) : Int)
      · rw [decide_eq_true ⟨hh, h2⟩]; rfl
      · rw [decide_eq_false (fun hc => h2 hc.2), cond_false]
        have : cntN (gA s) (gB s) k = 0 := by unfold cntN; omega
        rw [rowN, this]; rfl
    · rw [decide_eq_false (fun hc => hh hc.1), cond_false]
      exact List.filter_eq_nil_iff.2 fun p _ hd => by have := of_decide_eq_true hd; omega
theorem row_len (s : Sp) (h : Int) : (bif soundS s && decide (0 ≤ h ∧ h ≤ ((gA s + gB s : Nat) : Int)) then rowN (gA s) (gB s) h.toNat else []).length ≤ 33153 := by
  rw [← on_eq]
  exact Nat.le_trans (List.length_filter_le _ _) (nds_len s)
theorem count_len (s : Sp) : (bif soundS s then (((gA s + 1) * (gB s + 1) : Nat) : Int) else 0) = ((nds s).length : Int) := by
  cases hs : soundS s
  · rw [nds_no hs]; rfl
  · rw [nds_yes hs, nodes_cnt]; rfl
theorem GridTells_ok (s : Sp) (h i j : Int) : PCall P 5 [spv s, .int .i64 h, .int .i64 i, .int .i64 j] (.bool true) := by
  have q1 := alive10_ok
  have q2 := pEq (count_ok s) (congrArg (AV.int .i64) (count_len s))
  have q3 := rNodes_ok s
  have q4 := gNodes_ok s
  have q5 := gsame_nvl (nds s) (nds_len s)
  have q6 := tall_ok s
  have q7 := rTall_ok s
  have q8 := gOn_ok s h
  have q9 := pEq (rOn_ok s h) (congrArg nvl (on_eq s h))
  have q10 := gsame_nvl _ (row_len s h)
  have q11 := gPlace_ok s i j
  have q12 := rPlace_ok s i j
  generalize (bif soundS s && decide (0 ≤ h ∧ h ≤ ((gA s + gB s : Nat) : Int)) then rowN (gA s) (gB s) h.toNat else []) = on at *
  generalize plS s i j = pl at *
  generalize gA s + gB s = tl at *
  generalize nds s = l at *
  have hnl := ncl_len l
  refine PCall.of_awp tok mixed fn5 (Nat.le_of_ble_eq_true rfl) ?_
  cases l with
  | nil =>
    cases on with
    | nil =>
      (conv => whnf); (repeat' first | ((with_reducible refine Box.mk ?_); conv => whnf) | ((with_reducible refine And.intro (fun _ => ?_) (fun _ => ?_)) <;> conv => whnf) | ((with_reducible show AYld _ _ _ _ _); (refine AYld.of tok mixed ?_); conv => whnf) | ((with_reducible show forceH _ _); (refine (forceH_eq _ _).mpr ?_); conv => whnf) | ((with_reducible show ACall _ _ _ _ _); (refine ACall.of_pure (by assumption) (by rfl) ?_); conv => whnf) | ((with_reducible show Exists _); (refine ⟨_, ACall.of_pure (by assumption) (by rfl) ⟨rfl, rfl⟩, ?_⟩); conv => whnf) | ((with_reducible show ∃ L, drawR L _ = true ∧ _); (refine ⟨[], by kernel_rfl, ?_⟩); conv => whnf) | ((with_reducible show _ ∧ _ ∧ _); (refine ⟨by omega, by omega, ?_⟩); conv => whnf) | fail)
      all_goals first
        | rfl
        | (rename_i hbad; exact absurd rfl hbad)
    | cons y r =>
      (conv => whnf); (repeat' first | ((with_reducible refine Box.mk ?_); conv => whnf) | ((with_reducible refine And.intro (fun _ => ?_) (fun _ => ?_)) <;> conv => whnf) | ((with_reducible show AYld _ _ _ _ _); (refine AYld.of tok mixed ?_); conv => whnf) | ((with_reducible show forceH _ _); (refine (forceH_eq _ _).mpr ?_); conv => whnf) | ((with_reducible show ACall _ _ _ _ _); (refine ACall.of_pure (by assumption) (by rfl) ?_); conv => whnf) | ((with_reducible show Exists _); (refine ⟨_, ACall.of_pure (by assumption) (by rfl) ⟨rfl, rfl⟩, ?_⟩); conv => whnf) | ((with_reducible show ∃ L, drawR L _ = true ∧ _); (refine ⟨[], by kernel_rfl, ?_⟩); conv => whnf) | ((with_reducible show _ ∧ _ ∧ _); (refine ⟨by omega, by omega, ?_⟩); conv => whnf) | fail)
      all_goals first
        | rfl
        | (rename_i hbad; exact absurd rfl hbad)
  | cons x r0 =>
    have q3' := pEq q3 (nvl_sl (l := x :: r0) (by simp))
    clear q3
    have hc : (((x :: r0).length : Nat) : Int) = ((ncl (x :: r0)).length : Int) := by rw [hnl]
    cases on with
    | nil =>
      (conv => whnf); (repeat' first | ((with_reducible refine Box.mk ?_); conv => whnf) | ((with_reducible refine And.intro (fun _ => ?_) (fun _ => ?_)) <;> conv => whnf) | ((with_reducible show AYld _ _ _ _ _); (refine AYld.of tok mixed ?_); conv => whnf) | ((with_reducible show forceH _ _); (refine (forceH_eq _ _).mpr ?_); conv => whnf) | ((with_reducible show ACall _ _ _ _ _); (refine ACall.of_pure (by assumption) (by rfl) ?_); conv => whnf) | ((with_reducible show Exists _); (refine ⟨_, ACall.of_pure (by assumption) (by rfl) ⟨rfl, rfl⟩, ?_⟩); conv => whnf) | ((with_reducible show ∃ L, drawR L _ = true ∧ _); (refine ⟨[], by kernel_rfl, ?_⟩); conv => whnf) | ((with_reducible show _ ∧ _ ∧ _); (refine ⟨by omega, by omega, ?_⟩); conv => whnf) | fail)
      all_goals first
        | rfl
        | (rename_i hbad; exact absurd hc hbad)
        | (rename_i hbad; exact absurd rfl hbad)
    | cons y r =>
      (conv => whnf); (repeat' first | ((with_reducible refine Box.mk ?_); conv => whnf) | ((with_reducible refine And.intro (fun _ => ?_) (fun _ => ?_)) <;> conv => whnf) | ((with_reducible show AYld _ _ _ _ _); (refine AYld.of tok mixed ?_); conv => whnf) | ((with_reducible show forceH _ _); (refine (forceH_eq _ _).mpr ?_); conv => whnf) | ((with_reducible show ACall _ _ _ _ _); (refine ACall.of_pure (by assumption) (by rfl) ?_); conv => whnf) | ((with_reducible show Exists _); (refine ⟨_, ACall.of_pure (by assumption) (by rfl) ⟨rfl, rfl⟩, ?_⟩); conv => whnf) | ((with_reducible show ∃ L, drawR L _ = true ∧ _); (refine ⟨[], by kernel_rfl, ?_⟩); conv => whnf) | ((with_reducible show _ ∧ _ ∧ _); (refine ⟨by omega, by omega, ?_⟩); conv => whnf) | fail)
      all_goals first
        | rfl
        | (rename_i hbad; exact absurd hc hbad)
        | (rename_i hbad; exact absurd rfl hbad)
theorem GridClimbs_ok (s : Sp) (p : Px) (hp : POk p) : PCall P 7 [spv s, pxv p] (.bool true) := by
  have q1 := alive10_ok
  have q2 := gAll_ok s p hp
  have q3 := rAll_ok s p hp
  have q4 := psame_pvl _ (allP_len s p)
  have q5 := gParents_ok s p hp
  have q6 := rParents_ok s p hp
  have hl : (parP s p).length ≤ 33153 := by
    unfold parP
    cases rightP s p
    · exact Nat.zero_le _
    · cases par0 s p <;> cases par1 s p <;> exact Nat.le_of_ble_eq_true rfl
  have q7 := psame_pvl _ hl
  generalize allP s p = a at *
  generalize parP s p = b at *
  cases a <;> cases b
  all_goals (
    refine PCall.of_awp tok mixed fn7 (Nat.le_of_ble_eq_true rfl) ?_
    (conv => whnf); (repeat' first | ((with_reducible refine Box.mk ?_); conv => whnf) | ((with_reducible refine And.intro (fun _ => ?_) (fun _ => ?_)) <;> conv => whnf) | ((with_reducible show AYld _ _ _ _ _); (refine AYld.of tok mixed ?_); conv => whnf) | ((with_reducible show forceH _ _); (refine (forceH_eq _ _).mpr ?_); conv => whnf) | ((with_reducible show ACall _ _ _ _ _); (refine ACall.of_pure (by assumption) (by rfl) ?_); conv => whnf) | ((with_reducible show Exists _); (refine ⟨_, ACall.of_pure (by assumption) (by rfl) ⟨rfl, rfl⟩, ?_⟩); conv => whnf) | ((with_reducible show ∃ L, drawR L _ = true ∧ _); (refine ⟨[], by kernel_rfl, ?_⟩); conv => whnf) | ((with_reducible show _ ∧ _ ∧ _); (refine ⟨by omega, by omega, ?_⟩); conv => whnf) | fail)
    rfl)
end Go.Proofs.YtgdonjndgjiocaaDoor
end

section
/- prefix: arguments read as data. -/
namespace Go.Proofs.YtgdonjndgjiocaaDoor
open Go.Ve

theorem dim_wf {B : Nat} {xs : List AV} (h : Wf ty B 23 xs) : ∃ d : Dm, xs = [.int .i64 d.kind, .int .i64 d.side, .int .i64 d.step] := by
  have h0 := h.struct_inv rfl
  obtain ⟨x1, r1, rfl, hk, h1⟩ := h0.cons_inv
  obtain ⟨x2, r2, rfl, hl, h2⟩ := h1.cons_inv
  obtain ⟨x3, r3, rfl, ha, h3⟩ := h2.cons_inv
  obtain rfl := h3.nil_inv
  obtain ⟨a, rfl, _⟩ := hk.int_inv rfl
  obtain ⟨b, rfl, _⟩ := hl.int_inv rfl
  obtain ⟨c, rfl, _⟩ := ha.int_inv rfl
  exact ⟨⟨a, b, c⟩, rfl⟩
theorem space_inv {B : Nat} {x : AV} (h : WfV ty B 26 x) : ∃ s : Sp, x = spv s := by
  obtain ⟨xs, rfl, h0⟩ := h.struct_inv rfl
  obtain ⟨x1, r1, rfl, hk, h1⟩ := h0.cons_inv
  obtain ⟨x2, r2, rfl, hl, h2⟩ := h1.cons_inv
  obtain rfl := h2.nil_inv
  obtain ⟨n, rfl, _⟩ := hk.int_inv rfl
  have h3 := hl.arr_inv (n := 2) rfl
  obtain ⟨y1, q1, rfl, g1, h4⟩ := h3.cons_inv
  obtain ⟨y2, q2, rfl, g2, h5⟩ := h4.cons_inv
  obtain rfl := h5.nil_inv
  obtain ⟨d0, rfl⟩ := dim_wf g1
  obtain ⟨d1, rfl⟩ := dim_wf g2
  exact ⟨⟨n, d0, d1⟩, rfl⟩
theorem prefix_any {B : Nat} {x : AV} (h : WfV ty B 33 x) : ∃ p : Px, x = pxv p := by
  obtain ⟨xs, rfl, h0⟩ := h.struct_inv rfl
  obtain ⟨x1, r1, rfl, hk, h1⟩ := h0.cons_inv
  obtain ⟨x2, r2, rfl, hl, h2⟩ := h1.cons_inv
  obtain rfl := h2.nil_inv
  have h3 := hk.arr_inv (n := 2) rfl
  obtain ⟨y1, q1, rfl, g1, h4⟩ := h3.cons_inv
  obtain ⟨y2, q2, rfl, g2, h5⟩ := h4.cons_inv
  obtain rfl := h5.nil_inv
  obtain ⟨a0, rfl, _⟩ := g1.int_inv rfl
  obtain ⟨a1, rfl, _⟩ := g2.int_inv rfl
  have h6 := hl.arr_inv (n := 2) rfl
  obtain ⟨z1, s1, rfl, k1, h7⟩ := h6.cons_inv
  obtain ⟨z2, s2, rfl, k2, h8⟩ := h7.cons_inv
  obtain rfl := h8.nil_inv
  obtain ⟨k0, rfl, _⟩ := key_wf k1
  obtain ⟨k1, rfl, _⟩ := key_wf k2
  exact ⟨⟨a0, a1, k0, k1⟩, rfl⟩
theorem prefix_inv {x : AV} (h : WfV ty 1048576 33 x) : ∃ p : Px, x = pxv p ∧ POk p := by
  obtain ⟨xs, rfl, h0⟩ := h.struct_inv rfl
  obtain ⟨x1, r1, rfl, hk, h1⟩ := h0.cons_inv
  obtain ⟨x2, r2, rfl, hl, h2⟩ := h1.cons_inv
  obtain rfl := h2.nil_inv
  have h3 := hk.arr_inv (n := 2) rfl
  obtain ⟨y1, q1, rfl, g1, h4⟩ := h3.cons_inv
  obtain ⟨y2, q2, rfl, g2, h5⟩ := h4.cons_inv
  obtain rfl := h5.nil_inv
  obtain ⟨a0, rfl, _⟩ := g1.int_inv rfl
  obtain ⟨a1, rfl, _⟩ := g2.int_inv rfl
  have h6 := hl.arr_inv (n := 2) rfl
  obtain ⟨z1, s1, rfl, k1, h7⟩ := h6.cons_inv
  obtain ⟨z2, s2, rfl, k2, h8⟩ := h7.cons_inv
  obtain rfl := h8.nil_inv
  obtain ⟨k0, rfl, m0⟩ := key_wf k1
  obtain ⟨k1, rfl, m1⟩ := key_wf k2
  exact ⟨⟨a0, a1, k0, k1⟩, rfl, m0.n, m1.n, m0.path, m1.path⟩
end Go.Proofs.YtgdonjndgjiocaaDoor
end

section
/- grid: the outright statements. -/
namespace Go.Proofs.YtgdonjndgjiocaaDoor
open Go.Ve

theorem plS_lt {s : Sp} {i j : Int} : plS s i j < (nds s).length := by
  by_cases h : 0 ≤ plS s i j
  · obtain ⟨p, _, _, h3⟩ := plS_at h
    have := (List.getElem?_eq_some_iff.1 h3).1
    omega
  · omega
theorem plS_nonneg {s : Sp} {i j : Int} : 0 ≤ plS s i j ↔ (soundS s = true ∧ 0 ≤ i ∧ i ≤ gA s ∧ 0 ≤ j ∧ j ≤ gB s) := by
  unfold plS
  split
  · rename_i h; exact ⟨fun _ => h, fun _ => by omega⟩
  · rename_i h; exact ⟨fun h' => by omega, fun h' => absurd h' h⟩
set_option maxHeartbeats 4000000 in
theorem GridPlaces_ok (s : Sp) (pl i j : Int) : PCall P 8 [spv s, .int .i64 pl, .int .i64 i, .int .i64 j] (.bool true) := by
  have q1 := alive10_ok
  have q2 := gNodes_ok s
  have q3 := pEq (count_ok s) (congrArg (AV.int .i64) (count_len s))
  have q4 := sound_ok s
  have q5 := fun i j => gPlace_ok s i j
  have q6 := gPlace_ok s i j
  have q7 := top_okP s
  obtain ⟨t0, t1⟩ := top_g s
  have hnn := @plS_nonneg s i j
  have hlt := @plS_lt s i j
  have hat := @plS_at s i j
  have hget := fun (k : Nat) (p : Nat × Nat) (h : (nds s)[k]? = some p) => plS_get h
  have hN := nds_len s
  have hne : nds s = [] ↔ soundS s = false := by
    cases hs : soundS s
    · rw [nds_no hs]; exact ⟨fun _ => rfl, fun _ => rfl⟩
    · rw [nds_yes hs]; exact ⟨fun h => absurd h (nodes_ne _ _), fun h => (by cases h)⟩
  rw [← t0, ← t1] at hnn
  generalize topP s = t at *
  generalize plS s i j = v at *
  generalize hl : nds s = l at *
  have hnl := ncl_len l
  cases hs : soundS s
  · have he := hne.2 hs
    subst he
    rw [hs] at q4
    have hv : v < 0 := by
      by_cases h : 0 ≤ v
      · have := (hnn.1 h).1; rw [hs] at this; cases this
      · omega
    refine PCall.of_awp tok mixed fn8 (Nat.le_of_ble_eq_true rfl) ?_
    (conv => whnf); (repeat' first | ((with_reducible refine Box.mk ?_); conv => whnf) | ((with_reducible refine And.intro (fun _ => ?_) (fun _ => ?_)) <;> conv => whnf) | ((with_reducible show AYld _ _ _ _ _); (refine AYld.of tok mixed ?_); conv => whnf) | ((with_reducible show forceH _ _); (refine (forceH_eq _ _).mpr ?_); conv => whnf) | ((with_reducible show ACall _ _ _ _ _); (refine ACall.of_pure (by assumption) (by rfl) ?_); conv => whnf) | ((with_reducible show Exists _); (refine ⟨_, ACall.of_pure (by assumption) (by rfl) ⟨rfl, rfl⟩, ?_⟩); conv => whnf) | ((with_reducible show ∃ L, drawR L _ = true ∧ _); (refine ⟨[], by kernel_rfl, ?_⟩); conv => whnf) | ((with_reducible show _ ∧ _ ∧ _); (refine ⟨by omega, by omega, ?_⟩); conv => whnf) | fail)
    all_goals first
      | rfl
      | contradiction
      | (exfalso; omega)
      | (rename_i hbad; exact absurd rfl hbad)
  · have hnn' : 0 ≤ v ↔ 0 ≤ i ∧ i ≤ t.a0 ∧ 0 ≤ j ∧ j ≤ t.a1 := by rw [hnn, hs]; simp
    rw [hs] at q4
    cases hlc : l with
    | nil => exact absurd (hne.1 hlc) (by rw [hs]; decide)
    | cons x0 r0 =>
      have q2' := pEq q2 (nvl_sl (by rw [hlc]; simp))
      clear q2
      have hpos : 0 < l.length := by rw [hlc]; simp
      by_cases hin : 0 ≤ pl ∧ pl < (l.length : Int)
      · have hlt2 : pl.toNat < l.length := by omega
        have hg0 : l[pl.toNat]? = some l[pl.toNat] := List.getElem?_eq_getElem hlt2
        have hg : (ncl l)[pl.toNat]? = some (ncs l[pl.toNat]) := by rw [ncl_get, hg0]; rfl
        have hp := hget _ _ hg0
        generalize l[pl.toNat] = p at *
        have q8 := q5 p.1 p.2
        rw [hp, show ((pl.toNat : Nat) : Int) = pl by omega] at q8
        by_cases hv : 0 ≤ v
        · obtain ⟨w, w1, w2, w3⟩ := hat hv
          have hgw : (ncl l)[v.toNat]? = some (ncs w) := by rw [ncl_get, w3]; rfl
          have hb := hnn'.1 hv
          refine PCall.of_awp tok mixed fn8 (Nat.le_of_ble_eq_true rfl) ?_
          (conv => whnf); (repeat' first | ((with_reducible refine Box.mk ?_); conv => whnf) | ((with_reducible refine And.intro (fun _ => ?_) (fun _ => ?_)) <;> conv => whnf) | ((with_reducible show AYld _ _ _ _ _); (refine AYld.of tok mixed ?_); conv => whnf) | ((with_reducible show forceH _ _); (refine (forceH_eq _ _).mpr ?_); conv => whnf) | ((with_reducible show ACall _ _ _ _ _); (refine ACall.of_pure (by assumption) (by rfl) ?_); conv => whnf) | ((with_reducible show Exists _); (refine ⟨_, ACall.of_pure (by assumption) (by rfl) ⟨rfl, rfl⟩, ?_⟩); conv => whnf) | ((with_reducible show ∃ L, drawR L _ = true ∧ _); (refine ⟨[], by kernel_rfl, ?_⟩); conv => whnf) | ((with_reducible show _ ∧ _ ∧ _); (refine ⟨by omega, by omega, ?_⟩); conv => whnf) | fail)
          all_goals try (exfalso; omega)
          all_goals try contradiction
          all_goals try (rename_i hbad; exact absurd rfl hbad)
          refine ⟨by omega, _, hg, rfl, ?_⟩
          (conv => whnf); (repeat' first | ((with_reducible refine Box.mk ?_); conv => whnf) | ((with_reducible refine And.intro (fun _ => ?_) (fun _ => ?_)) <;> conv => whnf) | ((with_reducible show AYld _ _ _ _ _); (refine AYld.of tok mixed ?_); conv => whnf) | ((with_reducible show forceH _ _); (refine (forceH_eq _ _).mpr ?_); conv => whnf) | ((with_reducible show ACall _ _ _ _ _); (refine ACall.of_pure (by assumption) (by rfl) ?_); conv => whnf) | ((with_reducible show Exists _); (refine ⟨_, ACall.of_pure (by assumption) (by rfl) ⟨rfl, rfl⟩, ?_⟩); conv => whnf) | ((with_reducible show ∃ L, drawR L _ = true ∧ _); (refine ⟨[], by kernel_rfl, ?_⟩); conv => whnf) | ((with_reducible show _ ∧ _ ∧ _); (refine ⟨by omega, by omega, ?_⟩); conv => whnf) | fail)
          all_goals try (exfalso; omega)
          all_goals try contradiction
          all_goals try (rename_i hbad; exact absurd rfl hbad)
          refine ⟨by omega, _, hgw, rfl, ?_⟩
          (conv => whnf); (repeat' first | ((with_reducible refine Box.mk ?_); conv => whnf) | ((with_reducible refine And.intro (fun _ => ?_) (fun _ => ?_)) <;> conv => whnf) | ((with_reducible show AYld _ _ _ _ _); (refine AYld.of tok mixed ?_); conv => whnf) | ((with_reducible show forceH _ _); (refine (forceH_eq _ _).mpr ?_); conv => whnf) | ((with_reducible show ACall _ _ _ _ _); (refine ACall.of_pure (by assumption) (by rfl) ?_); conv => whnf) | ((with_reducible show Exists _); (refine ⟨_, ACall.of_pure (by assumption) (by rfl) ⟨rfl, rfl⟩, ?_⟩); conv => whnf) | ((with_reducible show ∃ L, drawR L _ = true ∧ _); (refine ⟨[], by kernel_rfl, ?_⟩); conv => whnf) | ((with_reducible show _ ∧ _ ∧ _); (refine ⟨by omega, by omega, ?_⟩); conv => whnf) | fail)
          all_goals first
            | rfl
            | (rename_i hbad; exact absurd ⟨w1.symm, w2.symm⟩ hbad)
        · have hb : ¬ (0 ≤ i ∧ i ≤ t.a0 ∧ 0 ≤ j ∧ j ≤ t.a1) := fun h => hv (hnn'.2 h)
          refine PCall.of_awp tok mixed fn8 (Nat.le_of_ble_eq_true rfl) ?_
          (conv => whnf); (repeat' first | ((with_reducible refine Box.mk ?_); conv => whnf) | ((with_reducible refine And.intro (fun _ => ?_) (fun _ => ?_)) <;> conv => whnf) | ((with_reducible show AYld _ _ _ _ _); (refine AYld.of tok mixed ?_); conv => whnf) | ((with_reducible show forceH _ _); (refine (forceH_eq _ _).mpr ?_); conv => whnf) | ((with_reducible show ACall _ _ _ _ _); (refine ACall.of_pure (by assumption) (by rfl) ?_); conv => whnf) | ((with_reducible show Exists _); (refine ⟨_, ACall.of_pure (by assumption) (by rfl) ⟨rfl, rfl⟩, ?_⟩); conv => whnf) | ((with_reducible show ∃ L, drawR L _ = true ∧ _); (refine ⟨[], by kernel_rfl, ?_⟩); conv => whnf) | ((with_reducible show _ ∧ _ ∧ _); (refine ⟨by omega, by omega, ?_⟩); conv => whnf) | fail)
          all_goals try (exfalso; omega)
          all_goals try contradiction
          all_goals try (rename_i hbad; exact absurd rfl hbad)
          refine ⟨by omega, _, hg, rfl, ?_⟩
          (conv => whnf); (repeat' first | ((with_reducible refine Box.mk ?_); conv => whnf) | ((with_reducible refine And.intro (fun _ => ?_) (fun _ => ?_)) <;> conv => whnf) | ((with_reducible show AYld _ _ _ _ _); (refine AYld.of tok mixed ?_); conv => whnf) | ((with_reducible show forceH _ _); (refine (forceH_eq _ _).mpr ?_); conv => whnf) | ((with_reducible show ACall _ _ _ _ _); (refine ACall.of_pure (by assumption) (by rfl) ?_); conv => whnf) | ((with_reducible show Exists _); (refine ⟨_, ACall.of_pure (by assumption) (by rfl) ⟨rfl, rfl⟩, ?_⟩); conv => whnf) | ((with_reducible show ∃ L, drawR L _ = true ∧ _); (refine ⟨[], by kernel_rfl, ?_⟩); conv => whnf) | ((with_reducible show _ ∧ _ ∧ _); (refine ⟨by omega, by omega, ?_⟩); conv => whnf) | fail)
          all_goals try (exfalso; omega)
          all_goals try contradiction
          all_goals try (rename_i hbad; exact absurd rfl hbad)
          all_goals rfl
      · by_cases hv : 0 ≤ v
        · obtain ⟨w, w1, w2, w3⟩ := hat hv
          have hgw : (ncl l)[v.toNat]? = some (ncs w) := by rw [ncl_get, w3]; rfl
          have hb := hnn'.1 hv
          refine PCall.of_awp tok mixed fn8 (Nat.le_of_ble_eq_true rfl) ?_
          (conv => whnf); (repeat' first | ((with_reducible refine Box.mk ?_); conv => whnf) | ((with_reducible refine And.intro (fun _ => ?_) (fun _ => ?_)) <;> conv => whnf) | ((with_reducible show AYld _ _ _ _ _); (refine AYld.of tok mixed ?_); conv => whnf) | ((with_reducible show forceH _ _); (refine (forceH_eq _ _).mpr ?_); conv => whnf) | ((with_reducible show ACall _ _ _ _ _); (refine ACall.of_pure (by assumption) (by rfl) ?_); conv => whnf) | ((with_reducible show Exists _); (refine ⟨_, ACall.of_pure (by assumption) (by rfl) ⟨rfl, rfl⟩, ?_⟩); conv => whnf) | ((with_reducible show ∃ L, drawR L _ = true ∧ _); (refine ⟨[], by kernel_rfl, ?_⟩); conv => whnf) | ((with_reducible show _ ∧ _ ∧ _); (refine ⟨by omega, by omega, ?_⟩); conv => whnf) | fail)
          all_goals try (exfalso; omega)
          all_goals try contradiction
          all_goals try (rename_i hbad; exact absurd rfl hbad)
          all_goals (
            refine ⟨by omega, _, hgw, rfl, ?_⟩
            (conv => whnf); (repeat' first | ((with_reducible refine Box.mk ?_); conv => whnf) | ((with_reducible refine And.intro (fun _ => ?_) (fun _ => ?_)) <;> conv => whnf) | ((with_reducible show AYld _ _ _ _ _); (refine AYld.of tok mixed ?_); conv => whnf) | ((with_reducible show forceH _ _); (refine (forceH_eq _ _).mpr ?_); conv => whnf) | ((with_reducible show ACall _ _ _ _ _); (refine ACall.of_pure (by assumption) (by rfl) ?_); conv => whnf) | ((with_reducible show Exists _); (refine ⟨_, ACall.of_pure (by assumption) (by rfl) ⟨rfl, rfl⟩, ?_⟩); conv => whnf) | ((with_reducible show ∃ L, drawR L _ = true ∧ _); (refine ⟨[], by kernel_rfl, ?_⟩); conv => whnf) | ((with_reducible show _ ∧ _ ∧ _); (refine ⟨by omega, by omega, ?_⟩); conv => whnf) | fail)
            all_goals first
              | rfl
              | (rename_i hbad; exact absurd ⟨w1.symm, w2.symm⟩ hbad))
        · have hb : ¬ (0 ≤ i ∧ i ≤ t.a0 ∧ 0 ≤ j ∧ j ≤ t.a1) := fun h => hv (hnn'.2 h)
          refine PCall.of_awp tok mixed fn8 (Nat.le_of_ble_eq_true rfl) ?_
          (conv => whnf); (repeat' first | ((with_reducible refine Box.mk ?_); conv => whnf) | ((with_reducible refine And.intro (fun _ => ?_) (fun _ => ?_)) <;> conv => whnf) | ((with_reducible show AYld _ _ _ _ _); (refine AYld.of tok mixed ?_); conv => whnf) | ((with_reducible show forceH _ _); (refine (forceH_eq _ _).mpr ?_); conv => whnf) | ((with_reducible show ACall _ _ _ _ _); (refine ACall.of_pure (by assumption) (by rfl) ?_); conv => whnf) | ((with_reducible show Exists _); (refine ⟨_, ACall.of_pure (by assumption) (by rfl) ⟨rfl, rfl⟩, ?_⟩); conv => whnf) | ((with_reducible show ∃ L, drawR L _ = true ∧ _); (refine ⟨[], by kernel_rfl, ?_⟩); conv => whnf) | ((with_reducible show _ ∧ _ ∧ _); (refine ⟨by omega, by omega, ?_⟩); conv => whnf) | fail)
          all_goals try (exfalso; omega)
          all_goals try contradiction
          all_goals try (rename_i hbad; exact absurd rfl hbad)
          all_goals rfl
/-- Which of the first so many is a given one. -/
def fnd (l : List Px) (q : Px) (i : Nat) : Bool := decide (q ∈ l.take i)
theorem fnd_step {l : List Px} {q x : Px} {i : Nat} (h : l[i]? = some x) : fnd l q (i + 1) = (fnd l q i || decide (x = q)) := by
  unfold fnd
  rw [List.take_add_one, h]
  rw [Bool.eq_iff_iff, Bool.or_eq_true, decide_eq_true_iff, decide_eq_true_iff, decide_eq_true_iff, List.mem_append]
  simp only [Option.toList_some, List.mem_singleton, eq_comm]
theorem fnd_all (l : List Px) (q : Px) {i : Nat} (h : l.length ≤ i) : fnd l q i = decide (q ∈ l) := by unfold fnd; rw [List.take_of_length_le h]
theorem pos_len {l : List Px} : (0 < l.length) ↔ l ≠ [] := List.length_pos_iff
set_option maxHeartbeats 4000000 in
theorem GridOver_ok (s : Sp) (p q : Px) (hp : POk p) (hq : POk q) : PCall P 9 [spv s, pxv p, pxv q] (.bool true) := by
  have q1 := alive10_ok
  have q2 := gAll_ok s p hp
  have q3 := pOver_ok s q p hq hp
  have q4 := pRight_ok s p hp
  have hmem : ∀ x, x ∈ allP s p ↔ overP s x p = true := fun x => allP_mem hp
  have hov := fun x (hx : x ∈ allP s p) => pOver_ok s x p (allP_ok hp x hx) hp
  have hpl := fun x : Px => gPlace_ok s x.a0 x.a1
  have hord := fun (i : Nat) (x y : Px) (h1 : (allP s p)[i]? = some x) (h2 : (allP s p)[i + 1]? = some y) => allP_ord h1 h2
  have hne : allP s p ≠ [] ↔ rightP s p = true := allP_ne hp
  have hN := allP_len s p
  have hfin : decide (q ∈ allP s p) = overP s q p := by
    rw [Bool.eq_iff_iff, decide_eq_true_iff]; exact hmem q
  generalize overP s q p = o at *
  generalize rightP s p = r at *
  generalize hl : allP s p = l at *
  have hnl := pcl_len l
  cases hlc : l with
  | nil =>
    subst hlc
    have hr : r = false := by
      cases r with
      | false => rfl
      | true => exact absurd rfl (hne.2 rfl)
    have ho : o = false := by rw [← hfin]; rfl
    subst hr
    subst ho
    refine PCall.of_awp tok mixed fn9 (Nat.le_of_ble_eq_true rfl) ?_
    (conv => whnf); (repeat' first | ((with_reducible refine Box.mk ?_); conv => whnf) | ((with_reducible refine And.intro (fun _ => ?_) (fun _ => ?_)) <;> conv => whnf) | ((with_reducible show AYld _ _ _ _ _); (refine AYld.of tok mixed ?_); conv => whnf) | ((with_reducible show forceH _ _); (refine (forceH_eq _ _).mpr ?_); conv => whnf) | ((with_reducible show ACall _ _ _ _ _); (refine ACall.of_pure (by assumption) (by rfl) ?_); conv => whnf) | ((with_reducible show Exists _); (refine ⟨_, ACall.of_pure (by assumption) (by rfl) ⟨rfl, rfl⟩, ?_⟩); conv => whnf) | ((with_reducible show ∃ L, drawR L _ = true ∧ _); (refine ⟨[], by kernel_rfl, ?_⟩); conv => whnf) | ((with_reducible show _ ∧ _ ∧ _); (refine ⟨by omega, by omega, ?_⟩); conv => whnf) | fail)
    refine aloopH (fun _ => True) (fun _ : Unit => [(3, .ptr 0 0), (4, .ptr 1 0), (5, .ptr 2 0), (7, .nils), (8, .bool false), (9, .int .i64 0)]) (fun _ H => H) (fun _ => 0) () trivial (weak_to ⟨rfl, rfl, rfl, rfl, rfl, rfl, trivial⟩ rfl) ?_
    intro _ _
    (conv => whnf); (repeat' first | ((with_reducible refine Box.mk ?_); conv => whnf) | ((with_reducible refine And.intro (fun _ => ?_) (fun _ => ?_)) <;> conv => whnf) | ((with_reducible show AYld _ _ _ _ _); (refine AYld.of tok mixed ?_); conv => whnf) | ((with_reducible show forceH _ _); (refine (forceH_eq _ _).mpr ?_); conv => whnf) | ((with_reducible show ACall _ _ _ _ _); (refine ACall.of_pure (by assumption) (by rfl) ?_); conv => whnf) | ((with_reducible show Exists _); (refine ⟨_, ACall.of_pure (by assumption) (by rfl) ⟨rfl, rfl⟩, ?_⟩); conv => whnf) | ((with_reducible show ∃ L, drawR L _ = true ∧ _); (refine ⟨[], by kernel_rfl, ?_⟩); conv => whnf) | ((with_reducible show _ ∧ _ ∧ _); (refine ⟨by omega, by omega, ?_⟩); conv => whnf) | fail)
    all_goals first
      | rfl
      | (exfalso; omega)
      | contradiction
      | (rename_i hbad; exact absurd rfl hbad)
  | cons x0 r0 =>
    have hr : r = true := hne.1 (by rw [hlc]; simp)
    subst hr
    have q2' := pEq q2 (pvl_sl (by rw [hlc]; simp))
    clear q2
    have hpos : 0 < l.length := by rw [hlc]; simp
    refine PCall.of_awp tok mixed fn9 (Nat.le_of_ble_eq_true rfl) ?_
    (conv => whnf); (repeat' first | ((with_reducible refine Box.mk ?_); conv => whnf) | ((with_reducible refine And.intro (fun _ => ?_) (fun _ => ?_)) <;> conv => whnf) | ((with_reducible show AYld _ _ _ _ _); (refine AYld.of tok mixed ?_); conv => whnf) | ((with_reducible show forceH _ _); (refine (forceH_eq _ _).mpr ?_); conv => whnf) | ((with_reducible show ACall _ _ _ _ _); (refine ACall.of_pure (by assumption) (by rfl) ?_); conv => whnf) | ((with_reducible show Exists _); (refine ⟨_, ACall.of_pure (by assumption) (by rfl) ⟨rfl, rfl⟩, ?_⟩); conv => whnf) | ((with_reducible show ∃ L, drawR L _ = true ∧ _); (refine ⟨[], by kernel_rfl, ?_⟩); conv => whnf) | ((with_reducible show _ ∧ _ ∧ _); (refine ⟨by omega, by omega, ?_⟩); conv => whnf) | fail)
    refine aloopH (fun i : Nat => i ≤ l.length) (fun i : Nat => [(3, .ptr 0 0), (4, .ptr 1 0), (5, .ptr 2 0), (7, .sl (pcl l)), (8, .bool (fnd l q i)), (9, .int .i64 i)]) (fun _ H => H) (fun i => l.length - i) 0 (Nat.zero_le _) (weak_to ⟨rfl, rfl, rfl, rfl, rfl, rfl, trivial⟩ rfl) ?_
    intro i hi
    by_cases hil : i < l.length
    · have hg0 : l[i]? = some l[i] := List.getElem?_eq_getElem hil
      have hg : (pcl l)[(i : Int).toNat]? = some (pcs l[i]) := by rw [pcl_get, Int.toNat_natCast, hg0]; rfl
      have hst := fnd_step (q := q) hg0
      have h1 := hov l[i] (List.getElem_mem hil)
      rw [(hmem _).1 (List.getElem_mem hil)] at h1
      have h2 := hpl l[i]
      have hprev : ∀ k, i = k + 1 → ∃ y, l[k]? = some y ∧ plS s y.a0 y.a1 < plS s l[i].a0 l[i].a1 := fun k hk => by
        have hkl : k < l.length := by omega
        exact ⟨l[k], List.getElem?_eq_getElem hkl, hord k _ _ (List.getElem?_eq_getElem hkl) (by rw [← hk]; exact hg0)⟩
      generalize l[i] = x at *
      rcases i with _ | k
      · have hf : fnd l q 0 = false := rfl
        (conv => whnf); (repeat' first | ((with_reducible refine Box.mk ?_); conv => whnf) | ((with_reducible refine And.intro (fun _ => ?_) (fun _ => ?_)) <;> conv => whnf) | ((with_reducible show AYld _ _ _ _ _); (refine AYld.of tok mixed ?_); conv => whnf) | ((with_reducible show forceH _ _); (refine (forceH_eq _ _).mpr ?_); conv => whnf) | ((with_reducible show ACall _ _ _ _ _); (refine ACall.of_pure (by assumption) (by rfl) ?_); conv => whnf) | ((with_reducible show Exists _); (refine ⟨_, ACall.of_pure (by assumption) (by rfl) ⟨rfl, rfl⟩, ?_⟩); conv => whnf) | ((with_reducible show ∃ L, drawR L _ = true ∧ _); (refine ⟨[], by kernel_rfl, ?_⟩); conv => whnf) | ((with_reducible show _ ∧ _ ∧ _); (refine ⟨by omega, by omega, ?_⟩); conv => whnf) | fail)
        all_goals try (exfalso; omega)
        all_goals try contradiction
        refine ⟨by omega, _, hg, rfl, ?_⟩
        (conv => whnf); (repeat' first | ((with_reducible refine Box.mk ?_); conv => whnf) | ((with_reducible refine And.intro (fun _ => ?_) (fun _ => ?_)) <;> conv => whnf) | ((with_reducible show AYld _ _ _ _ _); (refine AYld.of tok mixed ?_); conv => whnf) | ((with_reducible show forceH _ _); (refine (forceH_eq _ _).mpr ?_); conv => whnf) | ((with_reducible show ACall _ _ _ _ _); (refine ACall.of_pure (by assumption) (by rfl) ?_); conv => whnf) | ((with_reducible show Exists _); (refine ⟨_, ACall.of_pure (by assumption) (by rfl) ⟨rfl, rfl⟩, ?_⟩); conv => whnf) | ((with_reducible show ∃ L, drawR L _ = true ∧ _); (refine ⟨[], by kernel_rfl, ?_⟩); conv => whnf) | ((with_reducible show _ ∧ _ ∧ _); (refine ⟨by omega, by omega, ?_⟩); conv => whnf) | fail)
        all_goals try (exfalso; omega)
        all_goals try contradiction
        refine ⟨by omega, _, hg, rfl, ?_⟩
        (conv => whnf); (repeat' first | ((with_reducible refine Box.mk ?_); conv => whnf) | ((with_reducible refine And.intro (fun _ => ?_) (fun _ => ?_)) <;> conv => whnf) | ((with_reducible show AYld _ _ _ _ _); (refine AYld.of tok mixed ?_); conv => whnf) | ((with_reducible show forceH _ _); (refine (forceH_eq _ _).mpr ?_); conv => whnf) | ((with_reducible show ACall _ _ _ _ _); (refine ACall.of_pure (by assumption) (by rfl) ?_); conv => whnf) | ((with_reducible show Exists _); (refine ⟨_, ACall.of_pure (by assumption) (by rfl) ⟨rfl, rfl⟩, ?_⟩); conv => whnf) | ((with_reducible show ∃ L, drawR L _ = true ∧ _); (refine ⟨[], by kernel_rfl, ?_⟩); conv => whnf) | ((with_reducible show _ ∧ _ ∧ _); (refine ⟨by omega, by omega, ?_⟩); conv => whnf) | fail)
        · rename_i hx
          exact ⟨0 + 1, hil, by omega, weak_to ⟨rfl, rfl, rfl, rfl, congrArg AV.bool (by rw [hst, hf, decide_eq_true (px_eq.1 hx)]; rfl), wrap_nat (m := 1) (by omega), trivial⟩ rfl⟩
        · rename_i hx
          exact ⟨0 + 1, hil, by omega, weak_to ⟨rfl, rfl, rfl, rfl, congrArg AV.bool (by rw [hst, hf, decide_eq_false (fun h => hx (px_eq.2 h))]; rfl), wrap_nat (m := 1) (by omega), trivial⟩ rfl⟩
      · obtain ⟨y, hy0, hyx⟩ := hprev k rfl
        have hgk : (pcl l)[(k : Int).toNat]? = some (pcs y) := by rw [pcl_get, Int.toNat_natCast, hy0]; rfl
        have h3 := hpl y
        have e5 : IntKind.i64.wrap (((k + 1 : Nat) : Int) - 1) = (k : Int) := by rw [wrap_i64 (by omega) (by omega)]; omega
        cases hf : fnd l q (k + 1)
        · (conv => whnf); (repeat' first | ((with_reducible refine Box.mk ?_); conv => whnf) | ((with_reducible refine And.intro (fun _ => ?_) (fun _ => ?_)) <;> conv => whnf) | ((with_reducible show AYld _ _ _ _ _); (refine AYld.of tok mixed ?_); conv => whnf) | ((with_reducible show forceH _ _); (refine (forceH_eq _ _).mpr ?_); conv => whnf) | ((with_reducible show ACall _ _ _ _ _); (refine ACall.of_pure (by assumption) (by rfl) ?_); conv => whnf) | ((with_reducible show Exists _); (refine ⟨_, ACall.of_pure (by assumption) (by rfl) ⟨rfl, rfl⟩, ?_⟩); conv => whnf) | ((with_reducible show ∃ L, drawR L _ = true ∧ _); (refine ⟨[], by kernel_rfl, ?_⟩); conv => whnf) | ((with_reducible show _ ∧ _ ∧ _); (refine ⟨by omega, by omega, ?_⟩); conv => whnf) | fail)
          all_goals try (exfalso; omega)
          all_goals try contradiction
          refine ⟨by omega, _, hg, rfl, ?_⟩
          (conv => whnf); (repeat' first | ((with_reducible refine Box.mk ?_); conv => whnf) | ((with_reducible refine And.intro (fun _ => ?_) (fun _ => ?_)) <;> conv => whnf) | ((with_reducible show AYld _ _ _ _ _); (refine AYld.of tok mixed ?_); conv => whnf) | ((with_reducible show forceH _ _); (refine (forceH_eq _ _).mpr ?_); conv => whnf) | ((with_reducible show ACall _ _ _ _ _); (refine ACall.of_pure (by assumption) (by rfl) ?_); conv => whnf) | ((with_reducible show Exists _); (refine ⟨_, ACall.of_pure (by assumption) (by rfl) ⟨rfl, rfl⟩, ?_⟩); conv => whnf) | ((with_reducible show ∃ L, drawR L _ = true ∧ _); (refine ⟨[], by kernel_rfl, ?_⟩); conv => whnf) | ((with_reducible show _ ∧ _ ∧ _); (refine ⟨by omega, by omega, ?_⟩); conv => whnf) | fail)
          all_goals try (exfalso; omega)
          all_goals try contradiction
          rw [e5]
          refine ⟨by omega, _, hgk, rfl, ?_⟩
          (conv => whnf); (repeat' first | ((with_reducible refine Box.mk ?_); conv => whnf) | ((with_reducible refine And.intro (fun _ => ?_) (fun _ => ?_)) <;> conv => whnf) | ((with_reducible show AYld _ _ _ _ _); (refine AYld.of tok mixed ?_); conv => whnf) | ((with_reducible show forceH _ _); (refine (forceH_eq _ _).mpr ?_); conv => whnf) | ((with_reducible show ACall _ _ _ _ _); (refine ACall.of_pure (by assumption) (by rfl) ?_); conv => whnf) | ((with_reducible show Exists _); (refine ⟨_, ACall.of_pure (by assumption) (by rfl) ⟨rfl, rfl⟩, ?_⟩); conv => whnf) | ((with_reducible show ∃ L, drawR L _ = true ∧ _); (refine ⟨[], by kernel_rfl, ?_⟩); conv => whnf) | ((with_reducible show _ ∧ _ ∧ _); (refine ⟨by omega, by omega, ?_⟩); conv => whnf) | fail)
          refine ⟨by omega, _, hg, rfl, ?_⟩
          (conv => whnf); (repeat' first | ((with_reducible refine Box.mk ?_); conv => whnf) | ((with_reducible refine And.intro (fun _ => ?_) (fun _ => ?_)) <;> conv => whnf) | ((with_reducible show AYld _ _ _ _ _); (refine AYld.of tok mixed ?_); conv => whnf) | ((with_reducible show forceH _ _); (refine (forceH_eq _ _).mpr ?_); conv => whnf) | ((with_reducible show ACall _ _ _ _ _); (refine ACall.of_pure (by assumption) (by rfl) ?_); conv => whnf) | ((with_reducible show Exists _); (refine ⟨_, ACall.of_pure (by assumption) (by rfl) ⟨rfl, rfl⟩, ?_⟩); conv => whnf) | ((with_reducible show ∃ L, drawR L _ = true ∧ _); (refine ⟨[], by kernel_rfl, ?_⟩); conv => whnf) | ((with_reducible show _ ∧ _ ∧ _); (refine ⟨by omega, by omega, ?_⟩); conv => whnf) | fail)
          all_goals try (exfalso; omega)
          all_goals try contradiction
          refine ⟨by omega, _, hg, rfl, ?_⟩
          (conv => whnf); (repeat' first | ((with_reducible refine Box.mk ?_); conv => whnf) | ((with_reducible refine And.intro (fun _ => ?_) (fun _ => ?_)) <;> conv => whnf) | ((with_reducible show AYld _ _ _ _ _); (refine AYld.of tok mixed ?_); conv => whnf) | ((with_reducible show forceH _ _); (refine (forceH_eq _ _).mpr ?_); conv => whnf) | ((with_reducible show ACall _ _ _ _ _); (refine ACall.of_pure (by assumption) (by rfl) ?_); conv => whnf) | ((with_reducible show Exists _); (refine ⟨_, ACall.of_pure (by assumption) (by rfl) ⟨rfl, rfl⟩, ?_⟩); conv => whnf) | ((with_reducible show ∃ L, drawR L _ = true ∧ _); (refine ⟨[], by kernel_rfl, ?_⟩); conv => whnf) | ((with_reducible show _ ∧ _ ∧ _); (refine ⟨by omega, by omega, ?_⟩); conv => whnf) | fail)
          · rename_i hx
            exact ⟨k + 1 + 1, hil, by omega, weak_to ⟨rfl, rfl, rfl, rfl, congrArg AV.bool (by rw [hst, hf, decide_eq_true (px_eq.1 hx)]; rfl), wrap_nat (m := 1) (by omega), trivial⟩ rfl⟩
          · rename_i hx
            exact ⟨k + 1 + 1, hil, by omega, weak_to ⟨rfl, rfl, rfl, rfl, congrArg AV.bool (by rw [hst, hf, decide_eq_false (fun h => hx (px_eq.2 h))]; rfl), wrap_nat (m := 1) (by omega), trivial⟩ rfl⟩
        · (conv => whnf); (repeat' first | ((with_reducible refine Box.mk ?_); conv => whnf) | ((with_reducible refine And.intro (fun _ => ?_) (fun _ => ?_)) <;> conv => whnf) | ((with_reducible show AYld _ _ _ _ _); (refine AYld.of tok mixed ?_); conv => whnf) | ((with_reducible show forceH _ _); (refine (forceH_eq _ _).mpr ?_); conv => whnf) | ((with_reducible show ACall _ _ _ _ _); (refine ACall.of_pure (by assumption) (by rfl) ?_); conv => whnf) | ((with_reducible show Exists _); (refine ⟨_, ACall.of_pure (by assumption) (by rfl) ⟨rfl, rfl⟩, ?_⟩); conv => whnf) | ((with_reducible show ∃ L, drawR L _ = true ∧ _); (refine ⟨[], by kernel_rfl, ?_⟩); conv => whnf) | ((with_reducible show _ ∧ _ ∧ _); (refine ⟨by omega, by omega, ?_⟩); conv => whnf) | fail)
          all_goals try (exfalso; omega)
          all_goals try contradiction
          refine ⟨by omega, _, hg, rfl, ?_⟩
          (conv => whnf); (repeat' first | ((with_reducible refine Box.mk ?_); conv => whnf) | ((with_reducible refine And.intro (fun _ => ?_) (fun _ => ?_)) <;> conv => whnf) | ((with_reducible show AYld _ _ _ _ _); (refine AYld.of tok mixed ?_); conv => whnf) | ((with_reducible show forceH _ _); (refine (forceH_eq _ _).mpr ?_); conv => whnf) | ((with_reducible show ACall _ _ _ _ _); (refine ACall.of_pure (by assumption) (by rfl) ?_); conv => whnf) | ((with_reducible show Exists _); (refine ⟨_, ACall.of_pure (by assumption) (by rfl) ⟨rfl, rfl⟩, ?_⟩); conv => whnf) | ((with_reducible show ∃ L, drawR L _ = true ∧ _); (refine ⟨[], by kernel_rfl, ?_⟩); conv => whnf) | ((with_reducible show _ ∧ _ ∧ _); (refine ⟨by omega, by omega, ?_⟩); conv => whnf) | fail)
          all_goals try (exfalso; omega)
          all_goals try contradiction
          rw [e5]
          refine ⟨by omega, _, hgk, rfl, ?_⟩
          (conv => whnf); (repeat' first | ((with_reducible refine Box.mk ?_); conv => whnf) | ((with_reducible refine And.intro (fun _ => ?_) (fun _ => ?_)) <;> conv => whnf) | ((with_reducible show AYld _ _ _ _ _); (refine AYld.of tok mixed ?_); conv => whnf) | ((with_reducible show forceH _ _); (refine (forceH_eq _ _).mpr ?_); conv => whnf) | ((with_reducible show ACall _ _ _ _ _); (refine ACall.of_pure (by assumption) (by rfl) ?_); conv => whnf) | ((with_reducible show Exists _); (refine ⟨_, ACall.of_pure (by assumption) (by rfl) ⟨rfl, rfl⟩, ?_⟩); conv => whnf) | ((with_reducible show ∃ L, drawR L _ = true ∧ _); (refine ⟨[], by kernel_rfl, ?_⟩); conv => whnf) | ((with_reducible show _ ∧ _ ∧ _); (refine ⟨by omega, by omega, ?_⟩); conv => whnf) | fail)
          refine ⟨by omega, _, hg, rfl, ?_⟩
          (conv => whnf); (repeat' first | ((with_reducible refine Box.mk ?_); conv => whnf) | ((with_reducible refine And.intro (fun _ => ?_) (fun _ => ?_)) <;> conv => whnf) | ((with_reducible show AYld _ _ _ _ _); (refine AYld.of tok mixed ?_); conv => whnf) | ((with_reducible show forceH _ _); (refine (forceH_eq _ _).mpr ?_); conv => whnf) | ((with_reducible show ACall _ _ _ _ _); (refine ACall.of_pure (by assumption) (by rfl) ?_); conv => whnf) | ((with_reducible show Exists _); (refine ⟨_, ACall.of_pure (by assumption) (by rfl) ⟨rfl, rfl⟩, ?_⟩); conv => whnf) | ((with_reducible show ∃ L, drawR L _ = true ∧ _); (refine ⟨[], by kernel_rfl, ?_⟩); conv => whnf) | ((with_reducible show _ ∧ _ ∧ _); (refine ⟨by omega, by omega, ?_⟩); conv => whnf) | fail)
          all_goals try (exfalso; omega)
          all_goals try contradiction
          exact ⟨k + 1 + 1, hil, by omega, weak_to ⟨rfl, rfl, rfl, rfl, congrArg AV.bool (by rw [hst, hf]; rfl), wrap_nat (m := 1) (by omega), trivial⟩ rfl⟩
    · have hfo : fnd l q i = o := by rw [fnd_all l q (by omega), hfin]
      rw [hfo]
      cases o
      all_goals (
        (conv => whnf); (repeat' first | ((with_reducible refine Box.mk ?_); conv => whnf) | ((with_reducible refine And.intro (fun _ => ?_) (fun _ => ?_)) <;> conv => whnf) | ((with_reducible show AYld _ _ _ _ _); (refine AYld.of tok mixed ?_); conv => whnf) | ((with_reducible show forceH _ _); (refine (forceH_eq _ _).mpr ?_); conv => whnf) | ((with_reducible show ACall _ _ _ _ _); (refine ACall.of_pure (by assumption) (by rfl) ?_); conv => whnf) | ((with_reducible show Exists _); (refine ⟨_, ACall.of_pure (by assumption) (by rfl) ⟨rfl, rfl⟩, ?_⟩); conv => whnf) | ((with_reducible show ∃ L, drawR L _ = true ∧ _); (refine ⟨[], by kernel_rfl, ?_⟩); conv => whnf) | ((with_reducible show _ ∧ _ ∧ _); (refine ⟨by omega, by omega, ?_⟩); conv => whnf) | fail)
        all_goals first
          | rfl
          | (exfalso; omega)
          | contradiction
          | (rename_i hbad; exact absurd rfl hbad))
theorem parP_mem {s : Sp} {p x : Px} (hp : POk p) (hx : x ∈ parP s p) : POk x ∧ overP s x p = true ∧ heightP s x = heightP s p + 1 := by
  unfold parP at hx
  cases hr : rightP s p
  · rw [hr, cond_false] at hx; cases hx
  · rw [hr, cond_true] at hx
    have hg := right_g hr
    obtain ⟨t0, t1⟩ := top_g s
    have hx : x ∈ (bif par0 s p then [upP s p (p.a0 + 1) p.a1] else []) ++ (bif par1 s p then [upP s p p.a0 (p.a1 + 1)] else []) := hx
    rcases List.mem_append.1 hx with h | h
    · cases h0 : par0 s p
      · rw [h0, cond_false] at h; cases h
      · rw [h0, cond_true, List.mem_singleton] at h
        have hd := of_decide_eq_true h0
        obtain ⟨u1, u2, u3⟩ := up_some hp (s := s) (i := p.a0 + 1) (j := p.a1) ⟨hr, by omega, by omega, by omega, by omega⟩
        subst h
        refine ⟨upP_ok hp _ _, u3, ?_⟩
        unfold heightP
        rw [(over_right u3).1, hr, cond_true, cond_true, u1, u2]; omega
    · cases h0 : par1 s p
      · rw [h0, cond_false] at h; cases h
      · rw [h0, cond_true, List.mem_singleton] at h
        have hd := of_decide_eq_true h0
        obtain ⟨u1, u2, u3⟩ := up_some hp (s := s) (i := p.a0) (j := p.a1 + 1) ⟨hr, by omega, by omega, by omega, by omega⟩
        subst h
        refine ⟨upP_ok hp _ _, u3, ?_⟩
        unfold heightP
        rw [(over_right u3).1, hr, cond_true, cond_true, u1, u2]; omega
theorem over_lvl {s : Sp} {q p : Px} (h : overP s q p = true) : p.a0 ≤ q.a0 ∧ p.a1 ≤ q.a1 := by
  unfold overP at h
  rw [Bool.and_eq_true] at h
  have := of_decide_eq_true h.2
  exact ⟨this.1, this.2.1⟩
/-- What is over a prefix, and isn't that one, is over one of its parents. -/
theorem par_over {s : Sp} {p q : Px} (hp : POk p) (hq : POk q) : (∃ x ∈ parP s p, overP s q x = true) ↔ (overP s q p = true ∧ q ≠ p) := by
  constructor
  · rintro ⟨x, hx, h⟩
    obtain ⟨h1, h2, h3⟩ := parP_mem hp hx
    have ht := over_transP hq h1 hp h h2
    refine ⟨ht, fun e => ?_⟩
    subst e
    have := over_antiP hq h1 h h2
    subst this
    omega
  · rintro ⟨h, hne⟩
    obtain ⟨hrq, hr⟩ := over_right h
    have hl := over_lvl h
    have hgp := right_g hr
    have hgq := right_g hrq
    obtain ⟨t0, t1⟩ := top_g s
    have hqu : q = upP s p q.a0 q.a1 := by
      have h2 := h
      rw [over_up, Bool.and_eq_true] at h2
      exact (of_decide_eq_true h2.2).symm
    have hlv : q.a0 ≠ p.a0 ∨ q.a1 ≠ p.a1 := by
      by_cases h0 : q.a0 = p.a0
      · by_cases h1 : q.a1 = p.a1
        · exfalso
          apply hne
          have hpp := over_reflP (s := s) hp
          rw [hr, over_up, Bool.and_eq_true] at hpp
          have hpu := of_decide_eq_true hpp.2
          rw [hqu, h0, h1]; exact hpu
        · exact .inr h1
      · exact .inl h0
    have hdims := (over_iffP hq hp).1 h
    have hcase : ∀ i j : Int, p.a0 ≤ i → p.a1 ≤ j → i ≤ q.a0 → j ≤ q.a1 → overP s q (upP s p i j) = true := fun i j h1 h2 h3 h4 => by
      obtain ⟨u1, u2, u3⟩ := up_some hp (s := s) (i := i) (j := j) ⟨hr, h1, h2, by omega, by omega⟩
      have hxk := upP_ok (s := s) hp i j
      have hx3 := (over_iffP hxk hp).1 u3
      refine (over_iffP hq hxk).2 ⟨hdims.1, ?_, ?_⟩
      · exact hdims.2.1.chain hp.n0 hx3.2.1 (by rw [u1]; omega)
      · exact (dir1 s).chain hp.n1 hdims.2.2 hx3.2.2 (by rw [u2]; omega)
    unfold parP
    rw [hr, cond_true]
    rcases hlv with h0 | h0
    · refine ⟨upP s p (p.a0 + 1) p.a1, ?_, hcase _ _ (by omega) (by omega) (by omega) (by omega)⟩
      show _ ∈ (bif par0 s p then [upP s p (p.a0 + 1) p.a1] else []) ++ (bif par1 s p then [upP s p p.a0 (p.a1 + 1)] else [])
      have : par0 s p = true := decide_eq_true (by omega)
      rw [this, cond_true]
      exact List.mem_append_left _ (List.mem_singleton.2 rfl)
    · refine ⟨upP s p p.a0 (p.a1 + 1), ?_, hcase _ _ (by omega) (by omega) (by omega) (by omega)⟩
      show _ ∈ (bif par0 s p then [upP s p (p.a0 + 1) p.a1] else []) ++ (bif par1 s p then [upP s p p.a0 (p.a1 + 1)] else [])
      have : par1 s p = true := decide_eq_true (by omega)
      rw [this, cond_true]
      exact List.mem_append_right _ (List.mem_singleton.2 rfl)
end Go.Proofs.YtgdonjndgjiocaaDoor
end

section
/- grid: the outright statement on parents; the walk. -/
namespace Go.Proofs.YtgdonjndgjiocaaDoor
open Go.Ve

theorem parP_len (s : Sp) (p : Px) : (parP s p).length ≤ 2 := by
  unfold parP
  cases rightP s p
  · exact Nat.zero_le _
  · cases par0 s p <;> cases par1 s p <;> exact Nat.le_of_ble_eq_true rfl
theorem height_le (s : Sp) (p : Px) : -1000 ≤ heightP s p ∧ heightP s p ≤ 1000 := by
  obtain ⟨g1, g2⟩ := g_le s
  unfold heightP
  cases hr : rightP s p
  · rw [cond_false]; omega
  · have := right_g hr
    rw [cond_true]; omega
/-- Over any of the first so many. -/
def ovr (s : Sp) (l : List Px) (q : Px) (i : Nat) : Bool := (l.take i).any fun x => overP s q x
theorem ovr_step {s : Sp} {l : List Px} {q x : Px} {i : Nat} (h : l[i]? = some x) : ovr s l q (i + 1) = (ovr s l q i || overP s q x) := by
  unfold ovr
  rw [List.take_add_one, h, List.any_append]
  simp
theorem ovr_all {s : Sp} {l : List Px} {q : Px} {i : Nat} (h : l.length ≤ i) : ovr s l q i = true ↔ ∃ x ∈ l, overP s q x = true := by
  unfold ovr; rw [List.take_of_length_le h, List.any_eq_true]
set_option maxHeartbeats 4000000 in
theorem GridParents_ok (s : Sp) (p q : Px) (hp : POk p) (hq : POk q) : PCall P 10 [spv s, pxv p, pxv q] (.bool true) := by
  have q1 := alive10_ok
  have q2 := gParents_ok s p hp
  have q3 := pOver_ok s q p hq hp
  have hmem := fun x (hx : x ∈ parP s p) => parP_mem hp hx
  have hov := fun x (hx : x ∈ parP s p) => pOver_ok s x p (parP_mem hp hx).1 hp
  have hov2 := fun x (hx : x ∈ parP s p) => pOver_ok s q x hq (parP_mem hp hx).1
  have hh := fun x (hx : x ∈ parP s p) => height_ok s x (parP_mem hp hx).1
  have hhp := height_ok s p hp
  have hbd := height_le s p
  have hN := parP_len s p
  have hend : ∀ i, (parP s p).length ≤ i → (ovr s (parP s p) q i = true ↔ overP s q p = true ∧ q ≠ p) := fun i hi => (ovr_all hi).trans (par_over hp hq)
  generalize overP s q p = o at *
  generalize heightP s p = hgt at *
  have ew : IntKind.i64.wrap (hgt + 1) = hgt + 1 := wrap_i64 (by omega) (by omega)
  generalize hl : parP s p = l at *
  have hnl := pcl_len l
  refine PCall.of_awp tok mixed fn10 (Nat.le_of_ble_eq_true rfl) ?_
  cases hlc : l with
  | nil =>
    subst hlc
    have h0 := hend 0 (Nat.zero_le _)
    have h0 : ¬ (o = true ∧ q ≠ p) := fun h => by cases (h0.2 h)
    (conv => whnf); (repeat' first | ((with_reducible refine Box.mk ?_); conv => whnf) | ((with_reducible refine And.intro (fun _ => ?_) (fun _ => ?_)) <;> conv => whnf) | ((with_reducible show AYld _ _ _ _ _); (refine AYld.of tok mixed ?_); conv => whnf) | ((with_reducible show forceH _ _); (refine (forceH_eq _ _).mpr ?_); conv => whnf) | ((with_reducible show ACall _ _ _ _ _); (refine ACall.of_pure (by assumption) (by rfl) ?_); conv => whnf) | ((with_reducible show Exists _); (refine ⟨_, ACall.of_pure (by assumption) (by rfl) ⟨rfl, rfl⟩, ?_⟩); conv => whnf) | ((with_reducible show ∃ L, drawR L _ = true ∧ _); (refine ⟨[], by kernel_rfl, ?_⟩); conv => whnf) | ((with_reducible show _ ∧ _ ∧ _); (refine ⟨by omega, by omega, ?_⟩); conv => whnf) | fail)
    refine aloopH (fun _ => True) (fun _ : Unit => [(3, .ptr 0 0), (4, .ptr 1 0), (5, .ptr 2 0), (7, .nils), (8, .bool false), (9, .int .i64 0)]) (fun _ H => H) (fun _ => 0) () trivial (weak_to ⟨rfl, rfl, rfl, rfl, rfl, rfl, trivial⟩ rfl) ?_
    intro _ _
    cases o
    all_goals (
      (conv => whnf); (repeat' first | ((with_reducible refine Box.mk ?_); conv => whnf) | ((with_reducible refine And.intro (fun _ => ?_) (fun _ => ?_)) <;> conv => whnf) | ((with_reducible show AYld _ _ _ _ _); (refine AYld.of tok mixed ?_); conv => whnf) | ((with_reducible show forceH _ _); (refine (forceH_eq _ _).mpr ?_); conv => whnf) | ((with_reducible show ACall _ _ _ _ _); (refine ACall.of_pure (by assumption) (by rfl) ?_); conv => whnf) | ((with_reducible show Exists _); (refine ⟨_, ACall.of_pure (by assumption) (by rfl) ⟨rfl, rfl⟩, ?_⟩); conv => whnf) | ((with_reducible show ∃ L, drawR L _ = true ∧ _); (refine ⟨[], by kernel_rfl, ?_⟩); conv => whnf) | ((with_reducible show _ ∧ _ ∧ _); (refine ⟨by omega, by omega, ?_⟩); conv => whnf) | fail)
      all_goals first
        | rfl
        | (exfalso; omega)
        | contradiction
        | (rename_i hbad _; exact absurd ⟨rfl, fun e => hbad (px_eq.2 e)⟩ h0))
  | cons x0 r0 =>
    have q2' := pEq q2 (pvl_sl (by rw [hlc]; simp))
    clear q2
    (conv => whnf); (repeat' first | ((with_reducible refine Box.mk ?_); conv => whnf) | ((with_reducible refine And.intro (fun _ => ?_) (fun _ => ?_)) <;> conv => whnf) | ((with_reducible show AYld _ _ _ _ _); (refine AYld.of tok mixed ?_); conv => whnf) | ((with_reducible show forceH _ _); (refine (forceH_eq _ _).mpr ?_); conv => whnf) | ((with_reducible show ACall _ _ _ _ _); (refine ACall.of_pure (by assumption) (by rfl) ?_); conv => whnf) | ((with_reducible show Exists _); (refine ⟨_, ACall.of_pure (by assumption) (by rfl) ⟨rfl, rfl⟩, ?_⟩); conv => whnf) | ((with_reducible show ∃ L, drawR L _ = true ∧ _); (refine ⟨[], by kernel_rfl, ?_⟩); conv => whnf) | ((with_reducible show _ ∧ _ ∧ _); (refine ⟨by omega, by omega, ?_⟩); conv => whnf) | fail)
    refine aloopH (fun i : Nat => i ≤ l.length) (fun i : Nat => [(3, .ptr 0 0), (4, .ptr 1 0), (5, .ptr 2 0), (7, .sl (pcl l)), (8, .bool (ovr s l q i)), (9, .int .i64 i)]) (fun _ H => H) (fun i => l.length - i) 0 (Nat.zero_le _) (weak_to ⟨rfl, rfl, rfl, rfl, rfl, rfl, trivial⟩ rfl) ?_
    intro i hi
    by_cases hil : i < l.length
    · have hg0 : l[i]? = some l[i] := List.getElem?_eq_getElem hil
      have hg : (pcl l)[(i : Int).toNat]? = some (pcs l[i]) := by rw [pcl_get, Int.toNat_natCast, hg0]; rfl
      have hst := ovr_step (s := s) (q := q) hg0
      have hm := List.getElem_mem hil
      have h1 := hov l[i] hm
      rw [(hmem _ hm).2.1] at h1
      have h2 := hh l[i] hm
      rw [(hmem _ hm).2.2] at h2
      have h3 := hov2 l[i] hm
      generalize l[i] = x at *
      generalize overP s q x = ox at *
      cases hf : ovr s l q i
      · (conv => whnf); (repeat' first | ((with_reducible refine Box.mk ?_); conv => whnf) | ((with_reducible refine And.intro (fun _ => ?_) (fun _ => ?_)) <;> conv => whnf) | ((with_reducible show AYld _ _ _ _ _); (refine AYld.of tok mixed ?_); conv => whnf) | ((with_reducible show forceH _ _); (refine (forceH_eq _ _).mpr ?_); conv => whnf) | ((with_reducible show ACall _ _ _ _ _); (refine ACall.of_pure (by assumption) (by rfl) ?_); conv => whnf) | ((with_reducible show Exists _); (refine ⟨_, ACall.of_pure (by assumption) (by rfl) ⟨rfl, rfl⟩, ?_⟩); conv => whnf) | ((with_reducible show ∃ L, drawR L _ = true ∧ _); (refine ⟨[], by kernel_rfl, ?_⟩); conv => whnf) | ((with_reducible show _ ∧ _ ∧ _); (refine ⟨by omega, by omega, ?_⟩); conv => whnf) | fail)
        all_goals try (exfalso; omega)
        all_goals try contradiction
        refine ⟨by omega, _, hg, rfl, ?_⟩
        (conv => whnf); (repeat' first | ((with_reducible refine Box.mk ?_); conv => whnf) | ((with_reducible refine And.intro (fun _ => ?_) (fun _ => ?_)) <;> conv => whnf) | ((with_reducible show AYld _ _ _ _ _); (refine AYld.of tok mixed ?_); conv => whnf) | ((with_reducible show forceH _ _); (refine (forceH_eq _ _).mpr ?_); conv => whnf) | ((with_reducible show ACall _ _ _ _ _); (refine ACall.of_pure (by assumption) (by rfl) ?_); conv => whnf) | ((with_reducible show Exists _); (refine ⟨_, ACall.of_pure (by assumption) (by rfl) ⟨rfl, rfl⟩, ?_⟩); conv => whnf) | ((with_reducible show ∃ L, drawR L _ = true ∧ _); (refine ⟨[], by kernel_rfl, ?_⟩); conv => whnf) | ((with_reducible show _ ∧ _ ∧ _); (refine ⟨by omega, by omega, ?_⟩); conv => whnf) | fail)
        all_goals try (exfalso; omega)
        all_goals try contradiction
        refine ⟨by omega, _, hg, rfl, ?_⟩
        (conv => whnf); (repeat' first | ((with_reducible refine Box.mk ?_); conv => whnf) | ((with_reducible refine And.intro (fun _ => ?_) (fun _ => ?_)) <;> conv => whnf) | ((with_reducible show AYld _ _ _ _ _); (refine AYld.of tok mixed ?_); conv => whnf) | ((with_reducible show forceH _ _); (refine (forceH_eq _ _).mpr ?_); conv => whnf) | ((with_reducible show ACall _ _ _ _ _); (refine ACall.of_pure (by assumption) (by rfl) ?_); conv => whnf) | ((with_reducible show Exists _); (refine ⟨_, ACall.of_pure (by assumption) (by rfl) ⟨rfl, rfl⟩, ?_⟩); conv => whnf) | ((with_reducible show ∃ L, drawR L _ = true ∧ _); (refine ⟨[], by kernel_rfl, ?_⟩); conv => whnf) | ((with_reducible show _ ∧ _ ∧ _); (refine ⟨by omega, by omega, ?_⟩); conv => whnf) | fail)
        all_goals try (rename_i hbad; exact absurd ew.symm hbad)
        refine ⟨by omega, _, hg, rfl, ?_⟩
        (conv => whnf); (repeat' first | ((with_reducible refine Box.mk ?_); conv => whnf) | ((with_reducible refine And.intro (fun _ => ?_) (fun _ => ?_)) <;> conv => whnf) | ((with_reducible show AYld _ _ _ _ _); (refine AYld.of tok mixed ?_); conv => whnf) | ((with_reducible show forceH _ _); (refine (forceH_eq _ _).mpr ?_); conv => whnf) | ((with_reducible show ACall _ _ _ _ _); (refine ACall.of_pure (by assumption) (by rfl) ?_); conv => whnf) | ((with_reducible show Exists _); (refine ⟨_, ACall.of_pure (by assumption) (by rfl) ⟨rfl, rfl⟩, ?_⟩); conv => whnf) | ((with_reducible show ∃ L, drawR L _ = true ∧ _); (refine ⟨[], by kernel_rfl, ?_⟩); conv => whnf) | ((with_reducible show _ ∧ _ ∧ _); (refine ⟨by omega, by omega, ?_⟩); conv => whnf) | fail)
        exact ⟨i + 1, hil, by omega, weak_to ⟨rfl, rfl, rfl, rfl, congrArg AV.bool (by rw [hst, hf]; cases ox <;> rfl), wrap_nat (m := 1) (by omega), trivial⟩ rfl⟩
      · (conv => whnf); (repeat' first | ((with_reducible refine Box.mk ?_); conv => whnf) | ((with_reducible refine And.intro (fun _ => ?_) (fun _ => ?_)) <;> conv => whnf) | ((with_reducible show AYld _ _ _ _ _); (refine AYld.of tok mixed ?_); conv => whnf) | ((with_reducible show forceH _ _); (refine (forceH_eq _ _).mpr ?_); conv => whnf) | ((with_reducible show ACall _ _ _ _ _); (refine ACall.of_pure (by assumption) (by rfl) ?_); conv => whnf) | ((with_reducible show Exists _); (refine ⟨_, ACall.of_pure (by assumption) (by rfl) ⟨rfl, rfl⟩, ?_⟩); conv => whnf) | ((with_reducible show ∃ L, drawR L _ = true ∧ _); (refine ⟨[], by kernel_rfl, ?_⟩); conv => whnf) | ((with_reducible show _ ∧ _ ∧ _); (refine ⟨by omega, by omega, ?_⟩); conv => whnf) | fail)
        all_goals try (exfalso; omega)
        all_goals try contradiction
        refine ⟨by omega, _, hg, rfl, ?_⟩
        (conv => whnf); (repeat' first | ((with_reducible refine Box.mk ?_); conv => whnf) | ((with_reducible refine And.intro (fun _ => ?_) (fun _ => ?_)) <;> conv => whnf) | ((with_reducible show AYld _ _ _ _ _); (refine AYld.of tok mixed ?_); conv => whnf) | ((with_reducible show forceH _ _); (refine (forceH_eq _ _).mpr ?_); conv => whnf) | ((with_reducible show ACall _ _ _ _ _); (refine ACall.of_pure (by assumption) (by rfl) ?_); conv => whnf) | ((with_reducible show Exists _); (refine ⟨_, ACall.of_pure (by assumption) (by rfl) ⟨rfl, rfl⟩, ?_⟩); conv => whnf) | ((with_reducible show ∃ L, drawR L _ = true ∧ _); (refine ⟨[], by kernel_rfl, ?_⟩); conv => whnf) | ((with_reducible show _ ∧ _ ∧ _); (refine ⟨by omega, by omega, ?_⟩); conv => whnf) | fail)
        all_goals try (exfalso; omega)
        all_goals try contradiction
        refine ⟨by omega, _, hg, rfl, ?_⟩
        (conv => whnf); (repeat' first | ((with_reducible refine Box.mk ?_); conv => whnf) | ((with_reducible refine And.intro (fun _ => ?_) (fun _ => ?_)) <;> conv => whnf) | ((with_reducible show AYld _ _ _ _ _); (refine AYld.of tok mixed ?_); conv => whnf) | ((with_reducible show forceH _ _); (refine (forceH_eq _ _).mpr ?_); conv => whnf) | ((with_reducible show ACall _ _ _ _ _); (refine ACall.of_pure (by assumption) (by rfl) ?_); conv => whnf) | ((with_reducible show Exists _); (refine ⟨_, ACall.of_pure (by assumption) (by rfl) ⟨rfl, rfl⟩, ?_⟩); conv => whnf) | ((with_reducible show ∃ L, drawR L _ = true ∧ _); (refine ⟨[], by kernel_rfl, ?_⟩); conv => whnf) | ((with_reducible show _ ∧ _ ∧ _); (refine ⟨by omega, by omega, ?_⟩); conv => whnf) | fail)
        all_goals try (rename_i hbad; exact absurd ew.symm hbad)
        exact ⟨i + 1, hil, by omega, weak_to ⟨rfl, rfl, rfl, rfl, congrArg AV.bool (by rw [hst, hf]; rfl), wrap_nat (m := 1) (by omega), trivial⟩ rfl⟩
    · have hfo := hend i (by omega)
      cases hf : ovr s l q i
      all_goals (
        rw [hf] at hfo
        cases o
        all_goals (
          (conv => whnf); (repeat' first | ((with_reducible refine Box.mk ?_); conv => whnf) | ((with_reducible refine And.intro (fun _ => ?_) (fun _ => ?_)) <;> conv => whnf) | ((with_reducible show AYld _ _ _ _ _); (refine AYld.of tok mixed ?_); conv => whnf) | ((with_reducible show forceH _ _); (refine (forceH_eq _ _).mpr ?_); conv => whnf) | ((with_reducible show ACall _ _ _ _ _); (refine ACall.of_pure (by assumption) (by rfl) ?_); conv => whnf) | ((with_reducible show Exists _); (refine ⟨_, ACall.of_pure (by assumption) (by rfl) ⟨rfl, rfl⟩, ?_⟩); conv => whnf) | ((with_reducible show ∃ L, drawR L _ = true ∧ _); (refine ⟨[], by kernel_rfl, ?_⟩); conv => whnf) | ((with_reducible show _ ∧ _ ∧ _); (refine ⟨by omega, by omega, ?_⟩); conv => whnf) | fail)
          all_goals first
            | rfl
            | (exfalso; omega)
            | contradiction
            | (rename_i hbad _; exact absurd (hfo.2 ⟨rfl, fun e => hbad (px_eq.2 e)⟩) (by decide))
            | exact absurd (hfo.1 rfl).1 (by decide)
            | (rename_i hbad; exact absurd (px_eq.1 hbad) (hfo.1 rfl).2)
            | (rename_i hbad _; exact absurd (px_eq.1 hbad) (hfo.1 rfl).2)))
set_option maxHeartbeats 4000000 in
theorem GridWalks_no (s : Sp) (most : Int) (hs : soundS s = false) : PCall P 6 [spv s, .int .i64 most] (.bool true) := by
  have q1 := alive10_ok
  have q2 := gWalk_ok s
  have q3 := rNodes_ok s
  have q4 := gsame_nil
  rw [nds_no hs] at q3
  refine PCall.of_awp tok mixed fn6 (Nat.le_of_ble_eq_true rfl) ?_
  (conv => whnf); (repeat' first | ((with_reducible refine Box.mk ?_); conv => whnf) | ((with_reducible refine And.intro (fun _ => ?_) (fun _ => ?_)) <;> conv => whnf) | ((with_reducible show AYld _ _ _ _ _); (refine AYld.of tok mixed ?_); conv => whnf) | ((with_reducible show forceH _ _); (refine (forceH_eq _ _).mpr ?_); conv => whnf) | ((with_reducible show ACall _ _ _ _ _); (refine ACall.of_pure (by assumption) (by rfl) ?_); conv => whnf) | ((with_reducible show Exists _); (refine ⟨_, ACall.of_pure (by assumption) (by rfl) ⟨rfl, rfl⟩, ?_⟩); conv => whnf) | ((with_reducible show ∃ L, drawR L _ = true ∧ _); (refine ⟨[], by kernel_rfl, ?_⟩); conv => whnf) | ((with_reducible show _ ∧ _ ∧ _); (refine ⟨by omega, by omega, ?_⟩); conv => whnf) | fail)
  all_goals try contradiction
  refine arange [(2, .ptr 0 0), (3, .ptr 1 0), (6, .ptr 2 0), (7, .ptr 3 0)] ⟨rfl, rfl, rfl, rfl, trivial⟩ rfl trivial ?_
  refine walk_none s hs _ _ _ ?_
  (conv => whnf); (repeat' first | ((with_reducible refine Box.mk ?_); conv => whnf) | ((with_reducible refine And.intro (fun _ => ?_) (fun _ => ?_)) <;> conv => whnf) | ((with_reducible show AYld _ _ _ _ _); (refine AYld.of tok mixed ?_); conv => whnf) | ((with_reducible show forceH _ _); (refine (forceH_eq _ _).mpr ?_); conv => whnf) | ((with_reducible show ACall _ _ _ _ _); (refine ACall.of_pure (by assumption) (by rfl) ?_); conv => whnf) | ((with_reducible show Exists _); (refine ⟨_, ACall.of_pure (by assumption) (by rfl) ⟨rfl, rfl⟩, ?_⟩); conv => whnf) | ((with_reducible show ∃ L, drawR L _ = true ∧ _); (refine ⟨[], by kernel_rfl, ?_⟩); conv => whnf) | ((with_reducible show _ ∧ _ ∧ _); (refine ⟨by omega, by omega, ?_⟩); conv => whnf) | fail)
  all_goals rfl
/-- What the walk has gathered. -/
def gwH : List (Nat × Nat) → Hp → Hp
  | [], H => H
  | x :: r, H => H.set 2 (.box 42 [.own 5]) ++ [.row 27 2 (ncl (x :: r))]
theorem gwH_snoc (pre : List (Nat × Nat)) (p : Nat × Nat) (H : Hp) : gwH (pre ++ [p]) H = H.set 2 (.box 42 [.own 5]) ++ [.row 27 2 (ncl pre ++ [ncs p])] := by
  rw [ncl_snoc]
  cases pre with
  | nil => rfl
  | cons x r => rfl
theorem gsame_at {A B : List (List AV)} (l : List (Nat × Nat)) (hA : A = ncl l) (hB : B = ncl l) (hl : l.length ≤ 33153) : PCall P 18 [.sl A, .sl B] (.bool true) := by
  rw [hA, hB]; exact gsame_ok l hl
theorem ncl_take0 (l : List (Nat × Nat)) (k : Nat) : (ncl l).take k = ncl (l.take k) := (List.map_take ..).symm
set_option maxHeartbeats 4000000 in
theorem GridWalks_yes (s : Sp) (most : Int) (hs : soundS s = true) : PCall P 6 [spv s, .int .i64 most] (.bool true) := by
  have q1 := alive10_ok
  have q2 := gWalk_ok s
  have q3 := rNodes_ok s
  have q4 := fun A B => @gsame_at A B
  have hnlt := fun k : Nat => ncl_take0 (nodesN (gA s) (gB s)) k
  have hnn := ncl_len (nodesN (gA s) (gB s))
  have hne := nodes_ne (gA s) (gB s)
  rw [nds_yes hs] at q3
  have hN := nds_len s
  rw [nds_yes hs] at hN
  have q3 := pEq q3 (nvl_sl (nodes_ne _ _))
  have hw := walk_iter s hs
  generalize hl : nodesN (gA s) (gB s) = l at *
  refine PCall.of_awp tok mixed fn6 (Nat.le_of_ble_eq_true rfl) ?_
  (conv => whnf); (repeat' first | ((with_reducible refine Box.mk ?_); conv => whnf) | ((with_reducible refine And.intro (fun _ => ?_) (fun _ => ?_)) <;> conv => whnf) | ((with_reducible show AYld _ _ _ _ _); (refine AYld.of tok mixed ?_); conv => whnf) | ((with_reducible show forceH _ _); (refine (forceH_eq _ _).mpr ?_); conv => whnf) | ((with_reducible show ACall _ _ _ _ _); (refine ACall.of_pure (by assumption) (by rfl) ?_); conv => whnf) | ((with_reducible show Exists _); (refine ⟨_, ACall.of_pure (by assumption) (by rfl) ⟨rfl, rfl⟩, ?_⟩); conv => whnf) | ((with_reducible show ∃ L, drawR L _ = true ∧ _); (refine ⟨[], by kernel_rfl, ?_⟩); conv => whnf) | ((with_reducible show _ ∧ _ ∧ _); (refine ⟨by omega, by omega, ?_⟩); conv => whnf) | fail)
  all_goals try contradiction
  refine arange [(2, .ptr 0 0), (3, .ptr 1 0), (6, .ptr 2 0), (7, .ptr 3 0)] ⟨rfl, rfl, rfl, rfl, trivial⟩ rfl trivial ?_
  refine hw _ _ (fun pre H => H = gwH pre _ ∧ (pre = [] ∨ (pre.length : Int) < most)) _ ⟨rfl, .inl rfl⟩ (fun pre p H hp hI => ?_) (fun H hI => ?_)
  · obtain ⟨rfl, hm⟩ := hI
    have hle := hp.length_le
    rw [List.length_append, List.length_singleton] at hle
    have hnl := ncl_len pre
    have hsn := fun H => gwH_snoc pre p H
    cases pre with
    | nil =>
      (conv => whnf); (repeat' first | ((with_reducible refine Box.mk ?_); conv => whnf) | ((with_reducible refine And.intro (fun _ => ?_) (fun _ => ?_)) <;> conv => whnf) | ((with_reducible show AYld _ _ _ _ _); (refine AYld.of tok mixed ?_); conv => whnf) | ((with_reducible show forceH _ _); (refine (forceH_eq _ _).mpr ?_); conv => whnf) | ((with_reducible show ACall _ _ _ _ _); (refine ACall.of_pure (by assumption) (by rfl) ?_); conv => whnf) | ((with_reducible show Exists _); (refine ⟨_, ACall.of_pure (by assumption) (by rfl) ⟨rfl, rfl⟩, ?_⟩); conv => whnf) | ((with_reducible show ∃ L, drawR L _ = true ∧ _); (refine ⟨[], by kernel_rfl, ?_⟩); conv => whnf) | ((with_reducible show _ ∧ _ ∧ _); (refine ⟨by omega, by omega, ?_⟩); conv => whnf) | fail)
      · refine ⟨fun c hc => by rw [List.mem_singleton.1 hc]; exact ⟨rfl, rfl⟩, fun h => (by cases h), fun _ => ⟨Nat.le_of_ble_eq_true rfl, Nat.le_of_ble_eq_true rfl, ?_⟩⟩
        (conv => whnf); (repeat' first | ((with_reducible refine Box.mk ?_); conv => whnf) | ((with_reducible refine And.intro (fun _ => ?_) (fun _ => ?_)) <;> conv => whnf) | ((with_reducible show AYld _ _ _ _ _); (refine AYld.of tok mixed ?_); conv => whnf) | ((with_reducible show forceH _ _); (refine (forceH_eq _ _).mpr ?_); conv => whnf) | ((with_reducible show ACall _ _ _ _ _); (refine ACall.of_pure (by assumption) (by rfl) ?_); conv => whnf) | ((with_reducible show Exists _); (refine ⟨_, ACall.of_pure (by assumption) (by rfl) ⟨rfl, rfl⟩, ?_⟩); conv => whnf) | ((with_reducible show ∃ L, drawR L _ = true ∧ _); (refine ⟨[], by kernel_rfl, ?_⟩); conv => whnf) | ((with_reducible show _ ∧ _ ∧ _); (refine ⟨by omega, by omega, ?_⟩); conv => whnf) | fail)
        · rename_i hmost
          have hmost : most ≤ 1 := hmost
          refine .inr ⟨rfl, ?_⟩
          have hpt := List.prefix_iff_eq_take.1 hp
          have htk : ∀ k : Nat, k = 1 → (ncl l).take k = ncl ([] ++ [p]) := fun k hk => by rw [hnlt, hk]; exact congrArg ncl hpt.symm
          have hall : l.length ≤ 1 → ncl l = ncl ([] ++ [p]) := fun h => by rw [← htk 1 rfl, List.take_of_length_le (by omega)]
          (conv => whnf); (repeat' first | ((with_reducible refine Box.mk ?_); conv => whnf) | ((with_reducible refine And.intro (fun _ => ?_) (fun _ => ?_)) <;> conv => whnf) | ((with_reducible show AYld _ _ _ _ _); (refine AYld.of tok mixed ?_); conv => whnf) | ((with_reducible show forceH _ _); (refine (forceH_eq _ _).mpr ?_); conv => whnf) | ((with_reducible show ACall _ _ _ _ _); (refine ACall.of_pure (by assumption) (by rfl) ?_); conv => whnf) | ((with_reducible show Exists _); (refine ⟨_, ACall.of_pure (by assumption) (by rfl) ⟨rfl, rfl⟩, ?_⟩); conv => whnf) | ((with_reducible show ∃ L, drawR L _ = true ∧ _); (refine ⟨[], by kernel_rfl, ?_⟩); conv => whnf) | ((with_reducible show _ ∧ _ ∧ _); (refine ⟨by omega, by omega, ?_⟩); conv => whnf) | fail)
          all_goals try (exfalso; omega)
          · refine ⟨ncl_all l, ?_⟩
            (conv => whnf); (repeat' first | ((with_reducible refine Box.mk ?_); conv => whnf) | ((with_reducible refine And.intro (fun _ => ?_) (fun _ => ?_)) <;> conv => whnf) | ((with_reducible show AYld _ _ _ _ _); (refine AYld.of tok mixed ?_); conv => whnf) | ((with_reducible show forceH _ _); (refine (forceH_eq _ _).mpr ?_); conv => whnf) | ((with_reducible show ACall _ _ _ _ _); (refine ACall.of_pure (by assumption) (by rfl) ?_); conv => whnf) | ((with_reducible show Exists _); (refine ⟨_, ACall.of_pure (by assumption) (by rfl) ⟨rfl, rfl⟩, ?_⟩); conv => whnf) | ((with_reducible show ∃ L, drawR L _ = true ∧ _); (refine ⟨[], by kernel_rfl, ?_⟩); conv => whnf) | ((with_reducible show _ ∧ _ ∧ _); (refine ⟨by omega, by omega, ?_⟩); conv => whnf) | fail)
            refine ACall.of_view (q4 _ _ ([] ++ [p]) rfl (htk _ rfl) (Nat.le_of_ble_eq_true rfl)) rfl rfl ?_
            (conv => whnf); (repeat' first | ((with_reducible refine Box.mk ?_); conv => whnf) | ((with_reducible refine And.intro (fun _ => ?_) (fun _ => ?_)) <;> conv => whnf) | ((with_reducible show AYld _ _ _ _ _); (refine AYld.of tok mixed ?_); conv => whnf) | ((with_reducible show forceH _ _); (refine (forceH_eq _ _).mpr ?_); conv => whnf) | ((with_reducible show ACall _ _ _ _ _); (refine ACall.of_pure (by assumption) (by rfl) ?_); conv => whnf) | ((with_reducible show Exists _); (refine ⟨_, ACall.of_pure (by assumption) (by rfl) ⟨rfl, rfl⟩, ?_⟩); conv => whnf) | ((with_reducible show ∃ L, drawR L _ = true ∧ _); (refine ⟨[], by kernel_rfl, ?_⟩); conv => whnf) | ((with_reducible show _ ∧ _ ∧ _); (refine ⟨by omega, by omega, ?_⟩); conv => whnf) | fail)
            rfl
          · refine ACall.of_view (q4 _ _ ([] ++ [p]) rfl (hall (by omega)) (Nat.le_of_ble_eq_true rfl)) rfl rfl ?_
            (conv => whnf); (repeat' first | ((with_reducible refine Box.mk ?_); conv => whnf) | ((with_reducible refine And.intro (fun _ => ?_) (fun _ => ?_)) <;> conv => whnf) | ((with_reducible show AYld _ _ _ _ _); (refine AYld.of tok mixed ?_); conv => whnf) | ((with_reducible show forceH _ _); (refine (forceH_eq _ _).mpr ?_); conv => whnf) | ((with_reducible show ACall _ _ _ _ _); (refine ACall.of_pure (by assumption) (by rfl) ?_); conv => whnf) | ((with_reducible show Exists _); (refine ⟨_, ACall.of_pure (by assumption) (by rfl) ⟨rfl, rfl⟩, ?_⟩); conv => whnf) | ((with_reducible show ∃ L, drawR L _ = true ∧ _); (refine ⟨[], by kernel_rfl, ?_⟩); conv => whnf) | ((with_reducible show _ ∧ _ ∧ _); (refine ⟨by omega, by omega, ?_⟩); conv => whnf) | fail)
            rfl
          · refine ⟨ncl_all l, ?_⟩
            (conv => whnf); (repeat' first | ((with_reducible refine Box.mk ?_); conv => whnf) | ((with_reducible refine And.intro (fun _ => ?_) (fun _ => ?_)) <;> conv => whnf) | ((with_reducible show AYld _ _ _ _ _); (refine AYld.of tok mixed ?_); conv => whnf) | ((with_reducible show forceH _ _); (refine (forceH_eq _ _).mpr ?_); conv => whnf) | ((with_reducible show ACall _ _ _ _ _); (refine ACall.of_pure (by assumption) (by rfl) ?_); conv => whnf) | ((with_reducible show Exists _); (refine ⟨_, ACall.of_pure (by assumption) (by rfl) ⟨rfl, rfl⟩, ?_⟩); conv => whnf) | ((with_reducible show ∃ L, drawR L _ = true ∧ _); (refine ⟨[], by kernel_rfl, ?_⟩); conv => whnf) | ((with_reducible show _ ∧ _ ∧ _); (refine ⟨by omega, by omega, ?_⟩); conv => whnf) | fail)
            refine ACall.of_view (q4 _ _ ([] ++ [p]) rfl (htk _ (by omega)) (Nat.le_of_ble_eq_true rfl)) rfl rfl ?_
            (conv => whnf); (repeat' first | ((with_reducible refine Box.mk ?_); conv => whnf) | ((with_reducible refine And.intro (fun _ => ?_) (fun _ => ?_)) <;> conv => whnf) | ((with_reducible show AYld _ _ _ _ _); (refine AYld.of tok mixed ?_); conv => whnf) | ((with_reducible show forceH _ _); (refine (forceH_eq _ _).mpr ?_); conv => whnf) | ((with_reducible show ACall _ _ _ _ _); (refine ACall.of_pure (by assumption) (by rfl) ?_); conv => whnf) | ((with_reducible show Exists _); (refine ⟨_, ACall.of_pure (by assumption) (by rfl) ⟨rfl, rfl⟩, ?_⟩); conv => whnf) | ((with_reducible show ∃ L, drawR L _ = true ∧ _); (refine ⟨[], by kernel_rfl, ?_⟩); conv => whnf) | ((with_reducible show _ ∧ _ ∧ _); (refine ⟨by omega, by omega, ?_⟩); conv => whnf) | fail)
            rfl
          · refine ACall.of_view (q4 _ _ ([] ++ [p]) rfl (hall (by omega)) (Nat.le_of_ble_eq_true rfl)) rfl rfl ?_
            (conv => whnf); (repeat' first | ((with_reducible refine Box.mk ?_); conv => whnf) | ((with_reducible refine And.intro (fun _ => ?_) (fun _ => ?_)) <;> conv => whnf) | ((with_reducible show AYld _ _ _ _ _); (refine AYld.of tok mixed ?_); conv => whnf) | ((with_reducible show forceH _ _); (refine (forceH_eq _ _).mpr ?_); conv => whnf) | ((with_reducible show ACall _ _ _ _ _); (refine ACall.of_pure (by assumption) (by rfl) ?_); conv => whnf) | ((with_reducible show Exists _); (refine ⟨_, ACall.of_pure (by assumption) (by rfl) ⟨rfl, rfl⟩, ?_⟩); conv => whnf) | ((with_reducible show ∃ L, drawR L _ = true ∧ _); (refine ⟨[], by kernel_rfl, ?_⟩); conv => whnf) | ((with_reducible show _ ∧ _ ∧ _); (refine ⟨by omega, by omega, ?_⟩); conv => whnf) | fail)
            rfl
        · rename_i hmost
          have hmost : ¬ most ≤ 1 := hmost
          have hm1 : ((([] ++ [p] : List (Nat × Nat)).length : Nat) : Int) < most := by show ((1 : Nat) : Int) < most; omega
          exact .inl ⟨rfl, [(0, true), (1, true), (2, true), (3, true), (4, true), (7, true)], _, rfl, rfl, rfl, rfl, rfl, .inr hm1⟩
      · rename_i hbad; exact absurd rfl hbad
    | cons x r =>
      (conv => whnf); (repeat' first | ((with_reducible refine Box.mk ?_); conv => whnf) | ((with_reducible refine And.intro (fun _ => ?_) (fun _ => ?_)) <;> conv => whnf) | ((with_reducible show AYld _ _ _ _ _); (refine AYld.of tok mixed ?_); conv => whnf) | ((with_reducible show forceH _ _); (refine (forceH_eq _ _).mpr ?_); conv => whnf) | ((with_reducible show ACall _ _ _ _ _); (refine ACall.of_pure (by assumption) (by rfl) ?_); conv => whnf) | ((with_reducible show Exists _); (refine ⟨_, ACall.of_pure (by assumption) (by rfl) ⟨rfl, rfl⟩, ?_⟩); conv => whnf) | ((with_reducible show ∃ L, drawR L _ = true ∧ _); (refine ⟨[], by kernel_rfl, ?_⟩); conv => whnf) | ((with_reducible show _ ∧ _ ∧ _); (refine ⟨by omega, by omega, ?_⟩); conv => whnf) | fail)
      · refine ⟨fun c hc => by rw [List.mem_singleton.1 hc]; exact ⟨rfl, rfl⟩, by rw [hnl]; show (_ + 1) * 16 ≤ _; omega, by rw [hnl]; show _ + 1 ≤ _; omega, ?_⟩
        (conv => whnf); (repeat' first | ((with_reducible refine Box.mk ?_); conv => whnf) | ((with_reducible refine And.intro (fun _ => ?_) (fun _ => ?_)) <;> conv => whnf) | ((with_reducible show AYld _ _ _ _ _); (refine AYld.of tok mixed ?_); conv => whnf) | ((with_reducible show forceH _ _); (refine (forceH_eq _ _).mpr ?_); conv => whnf) | ((with_reducible show ACall _ _ _ _ _); (refine ACall.of_pure (by assumption) (by rfl) ?_); conv => whnf) | ((with_reducible show Exists _); (refine ⟨_, ACall.of_pure (by assumption) (by rfl) ⟨rfl, rfl⟩, ?_⟩); conv => whnf) | ((with_reducible show ∃ L, drawR L _ = true ∧ _); (refine ⟨[], by kernel_rfl, ?_⟩); conv => whnf) | ((with_reducible show _ ∧ _ ∧ _); (refine ⟨by omega, by omega, ?_⟩); conv => whnf) | fail)
        · rename_i hmost
          refine .inr ⟨rfl, ?_⟩
          have hpt := List.prefix_iff_eq_take.1 hp
          have hpl : (x :: r ++ [p]).length = (x :: r).length + 1 := by rw [List.length_append]; rfl
          have hm : ((x :: r).length : Int) < most := hm.resolve_left (fun h => by cases h)
          have hmost : most ≤ ((x :: r).length : Int) + 1 := by
            rw [List.length_append, hnl] at hmost; exact hmost
          have hsp := ncl_snoc (x :: r) p
          have htk : ∀ k : Nat, k = (x :: r).length + 1 → (ncl l).take k = ncl (x :: r ++ [p]) := fun k hk => by rw [hnlt, hk, ← hpl]; exact congrArg ncl hpt.symm
          have hall : l.length ≤ (x :: r).length + 1 → ncl l = ncl (x :: r ++ [p]) := fun h => by rw [← htk _ rfl, List.take_of_length_le (by omega)]
          generalize hxn : (x :: r).length = xn at *
          (conv => whnf); (repeat' first | ((with_reducible refine Box.mk ?_); conv => whnf) | ((with_reducible refine And.intro (fun _ => ?_) (fun _ => ?_)) <;> conv => whnf) | ((with_reducible show AYld _ _ _ _ _); (refine AYld.of tok mixed ?_); conv => whnf) | ((with_reducible show forceH _ _); (refine (forceH_eq _ _).mpr ?_); conv => whnf) | ((with_reducible show ACall _ _ _ _ _); (refine ACall.of_pure (by assumption) (by rfl) ?_); conv => whnf) | ((with_reducible show Exists _); (refine ⟨_, ACall.of_pure (by assumption) (by rfl) ⟨rfl, rfl⟩, ?_⟩); conv => whnf) | ((with_reducible show ∃ L, drawR L _ = true ∧ _); (refine ⟨[], by kernel_rfl, ?_⟩); conv => whnf) | ((with_reducible show _ ∧ _ ∧ _); (refine ⟨by omega, by omega, ?_⟩); conv => whnf) | fail)
          all_goals try (exfalso; omega)
          · refine ⟨ncl_all l, ?_⟩
            (conv => whnf); (repeat' first | ((with_reducible refine Box.mk ?_); conv => whnf) | ((with_reducible refine And.intro (fun _ => ?_) (fun _ => ?_)) <;> conv => whnf) | ((with_reducible show AYld _ _ _ _ _); (refine AYld.of tok mixed ?_); conv => whnf) | ((with_reducible show forceH _ _); (refine (forceH_eq _ _).mpr ?_); conv => whnf) | ((with_reducible show ACall _ _ _ _ _); (refine ACall.of_pure (by assumption) (by rfl) ?_); conv => whnf) | ((with_reducible show Exists _); (refine ⟨_, ACall.of_pure (by assumption) (by rfl) ⟨rfl, rfl⟩, ?_⟩); conv => whnf) | ((with_reducible show ∃ L, drawR L _ = true ∧ _); (refine ⟨[], by kernel_rfl, ?_⟩); conv => whnf) | ((with_reducible show _ ∧ _ ∧ _); (refine ⟨by omega, by omega, ?_⟩); conv => whnf) | fail)
            refine ACall.of_view (q4 _ _ (x :: r ++ [p]) hsp (htk _ (by omega)) (by omega)) rfl rfl ?_
            (conv => whnf); (repeat' first | ((with_reducible refine Box.mk ?_); conv => whnf) | ((with_reducible refine And.intro (fun _ => ?_) (fun _ => ?_)) <;> conv => whnf) | ((with_reducible show AYld _ _ _ _ _); (refine AYld.of tok mixed ?_); conv => whnf) | ((with_reducible show forceH _ _); (refine (forceH_eq _ _).mpr ?_); conv => whnf) | ((with_reducible show ACall _ _ _ _ _); (refine ACall.of_pure (by assumption) (by rfl) ?_); conv => whnf) | ((with_reducible show Exists _); (refine ⟨_, ACall.of_pure (by assumption) (by rfl) ⟨rfl, rfl⟩, ?_⟩); conv => whnf) | ((with_reducible show ∃ L, drawR L _ = true ∧ _); (refine ⟨[], by kernel_rfl, ?_⟩); conv => whnf) | ((with_reducible show _ ∧ _ ∧ _); (refine ⟨by omega, by omega, ?_⟩); conv => whnf) | fail)
            rfl
          · refine ACall.of_view (q4 _ _ (x :: r ++ [p]) hsp (hall (by omega)) (by omega)) rfl rfl ?_
            (conv => whnf); (repeat' first | ((with_reducible refine Box.mk ?_); conv => whnf) | ((with_reducible refine And.intro (fun _ => ?_) (fun _ => ?_)) <;> conv => whnf) | ((with_reducible show AYld _ _ _ _ _); (refine AYld.of tok mixed ?_); conv => whnf) | ((with_reducible show forceH _ _); (refine (forceH_eq _ _).mpr ?_); conv => whnf) | ((with_reducible show ACall _ _ _ _ _); (refine ACall.of_pure (by assumption) (by rfl) ?_); conv => whnf) | ((with_reducible show Exists _); (refine ⟨_, ACall.of_pure (by assumption) (by rfl) ⟨rfl, rfl⟩, ?_⟩); conv => whnf) | ((with_reducible show ∃ L, drawR L _ = true ∧ _); (refine ⟨[], by kernel_rfl, ?_⟩); conv => whnf) | ((with_reducible show _ ∧ _ ∧ _); (refine ⟨by omega, by omega, ?_⟩); conv => whnf) | fail)
            rfl
        · rename_i hmost
          refine .inl ⟨rfl, [(0, true), (1, true), (2, true), (3, true), (4, true), (8, true)], _, rfl, rfl, rfl, rfl, by rw [hsn]; rfl, .inr ?_⟩
          rw [List.length_append] at hmost ⊢
          simp only [List.length_cons, List.length_nil] at hmost hnl ⊢
          omega
      · rename_i hbad; exact absurd (congrArg Nat.cast hnl).symm hbad
  · obtain ⟨rfl, hm⟩ := hI
    have hm : (l.length : Int) < most := hm.resolve_left hne
    have hlp := List.length_pos_iff.2 hne
    cases hlc : l with
    | nil => exact absurd hlc hne
    | cons x r =>
      (conv => whnf); (repeat' first | ((with_reducible refine Box.mk ?_); conv => whnf) | ((with_reducible refine And.intro (fun _ => ?_) (fun _ => ?_)) <;> conv => whnf) | ((with_reducible show AYld _ _ _ _ _); (refine AYld.of tok mixed ?_); conv => whnf) | ((with_reducible show forceH _ _); (refine (forceH_eq _ _).mpr ?_); conv => whnf) | ((with_reducible show ACall _ _ _ _ _); (refine ACall.of_pure (by assumption) (by rfl) ?_); conv => whnf) | ((with_reducible show Exists _); (refine ⟨_, ACall.of_pure (by assumption) (by rfl) ⟨rfl, rfl⟩, ?_⟩); conv => whnf) | ((with_reducible show ∃ L, drawR L _ = true ∧ _); (refine ⟨[], by kernel_rfl, ?_⟩); conv => whnf) | ((with_reducible show _ ∧ _ ∧ _); (refine ⟨by omega, by omega, ?_⟩); conv => whnf) | fail)
      all_goals try (exfalso; omega)
      refine ACall.of_view (q4 _ _ (x :: r) rfl (congrArg ncl hlc) (by rw [← hlc]; omega)) rfl rfl ?_
      (conv => whnf); (repeat' first | ((with_reducible refine Box.mk ?_); conv => whnf) | ((with_reducible refine And.intro (fun _ => ?_) (fun _ => ?_)) <;> conv => whnf) | ((with_reducible show AYld _ _ _ _ _); (refine AYld.of tok mixed ?_); conv => whnf) | ((with_reducible show forceH _ _); (refine (forceH_eq _ _).mpr ?_); conv => whnf) | ((with_reducible show ACall _ _ _ _ _); (refine ACall.of_pure (by assumption) (by rfl) ?_); conv => whnf) | ((with_reducible show Exists _); (refine ⟨_, ACall.of_pure (by assumption) (by rfl) ⟨rfl, rfl⟩, ?_⟩); conv => whnf) | ((with_reducible show ∃ L, drawR L _ = true ∧ _); (refine ⟨[], by kernel_rfl, ?_⟩); conv => whnf) | ((with_reducible show _ ∧ _ ∧ _); (refine ⟨by omega, by omega, ?_⟩); conv => whnf) | fail)
      rfl
theorem GridWalks_ok (s : Sp) (most : Int) : PCall P 6 [spv s, .int .i64 most] (.bool true) := by
  cases hs : soundS s
  · exact GridWalks_no s most hs
  · exact GridWalks_yes s most hs
end Go.Proofs.YtgdonjndgjiocaaDoor
end

section
/- grid: the statements at whatever arguments read as data. -/
namespace Go.Proofs.YtgdonjndgjiocaaDoor
open Go.Ve

theorem GridTells_args (xs : List AV) (h : WfA ty 9223372036854775807 [26, 3, 3, 3] xs) : PCall P 5 xs (.bool true) := by
  obtain ⟨y1, r1, rfl, g1, h1⟩ := h.cons_inv
  obtain ⟨y2, r2, rfl, g2, h2⟩ := h1.cons_inv
  obtain ⟨y3, r3, rfl, g3, h3⟩ := h2.cons_inv
  obtain ⟨y4, r4, rfl, g4, h4⟩ := h3.cons_inv
  obtain rfl := h4.nil_inv
  obtain ⟨x1, rfl⟩ := space_inv g1
  obtain ⟨x2, rfl, _⟩ := g2.int_inv rfl
  obtain ⟨x3, rfl, _⟩ := g3.int_inv rfl
  obtain ⟨x4, rfl, _⟩ := g4.int_inv rfl
  exact GridTells_ok x1 x2 x3 x4
theorem GridWalks_args (xs : List AV) (h : WfA ty 9223372036854775807 [26, 3] xs) : PCall P 6 xs (.bool true) := by
  obtain ⟨y1, r1, rfl, g1, h1⟩ := h.cons_inv
  obtain ⟨y2, r2, rfl, g2, h2⟩ := h1.cons_inv
  obtain rfl := h2.nil_inv
  obtain ⟨x1, rfl⟩ := space_inv g1
  obtain ⟨x2, rfl, _⟩ := g2.int_inv rfl
  exact GridWalks_ok x1 x2
theorem GridPlaces_args (xs : List AV) (h : WfA ty 9223372036854775807 [26, 3, 3, 3] xs) : PCall P 8 xs (.bool true) := by
  obtain ⟨y1, r1, rfl, g1, h1⟩ := h.cons_inv
  obtain ⟨y2, r2, rfl, g2, h2⟩ := h1.cons_inv
  obtain ⟨y3, r3, rfl, g3, h3⟩ := h2.cons_inv
  obtain ⟨y4, r4, rfl, g4, h4⟩ := h3.cons_inv
  obtain rfl := h4.nil_inv
  obtain ⟨x1, rfl⟩ := space_inv g1
  obtain ⟨x2, rfl, _⟩ := g2.int_inv rfl
  obtain ⟨x3, rfl, _⟩ := g3.int_inv rfl
  obtain ⟨x4, rfl, _⟩ := g4.int_inv rfl
  exact GridPlaces_ok x1 x2 x3 x4
theorem GridClimbs_args (xs : List AV) (h : WfA ty 1048576 [26, 33] xs) : PCall P 7 xs (.bool true) := by
  obtain ⟨y1, r1, rfl, g1, h1⟩ := h.cons_inv
  obtain ⟨y2, r2, rfl, g2, h2⟩ := h1.cons_inv
  obtain rfl := h2.nil_inv
  obtain ⟨x1, rfl⟩ := space_inv g1
  obtain ⟨x2, rfl, f2⟩ := prefix_inv g2
  exact GridClimbs_ok x1 x2 f2
theorem GridOver_args (xs : List AV) (h : WfA ty 1048576 [26, 33, 33] xs) : PCall P 9 xs (.bool true) := by
  obtain ⟨y1, r1, rfl, g1, h1⟩ := h.cons_inv
  obtain ⟨y2, r2, rfl, g2, h2⟩ := h1.cons_inv
  obtain ⟨y3, r3, rfl, g3, h3⟩ := h2.cons_inv
  obtain rfl := h3.nil_inv
  obtain ⟨x1, rfl⟩ := space_inv g1
  obtain ⟨x2, rfl, f2⟩ := prefix_inv g2
  obtain ⟨x3, rfl, f3⟩ := prefix_inv g3
  exact GridOver_ok x1 x2 x3 f2 f3
theorem GridParents_args (xs : List AV) (h : WfA ty 1048576 [26, 33, 33] xs) : PCall P 10 xs (.bool true) := by
  obtain ⟨y1, r1, rfl, g1, h1⟩ := h.cons_inv
  obtain ⟨y2, r2, rfl, g2, h2⟩ := h1.cons_inv
  obtain ⟨y3, r3, rfl, g3, h3⟩ := h2.cons_inv
  obtain rfl := h3.nil_inv
  obtain ⟨x1, rfl⟩ := space_inv g1
  obtain ⟨x2, rfl, f2⟩ := prefix_inv g2
  obtain ⟨x3, rfl, f3⟩ := prefix_inv g3
  exact GridParents_ok x1 x2 x3 f2 f3
end Go.Proofs.YtgdonjndgjiocaaDoor
end
