/- What a bound on the data's bulk gives. -/
import Derived.Test.YtnajpmepcffnaaaGreatDoorRows
import Derived.Test.YtnajpmepcffnaaaGreatDoorXTy
namespace Go.Proofs.YtnajpmepcffnaaaGreatDoor
open Go.Ve

theorem bulk_mem {H : Type} : ∀ {l : List (DataW H)} {d : DataW H}, d ∈ l → Rows.uptoBulk d ≤ Rows.uptoBulkAll l
  | x :: r, d, h => by
    rw [Rows.uptoBulkAll]
    rcases List.mem_cons.1 h with rfl | h
    · omega
    · have := bulk_mem h; omega
theorem bulk_pos {H : Type} (d : DataW H) : 1 ≤ Rows.uptoBulk d := by
  cases d with
  | lit l => cases l <;> simp [Rows.uptoBulk]
  | _ => simp [Rows.uptoBulk]
theorem bulk_len {H : Type} : ∀ (l : List (DataW H)), l.length ≤ Rows.uptoBulkAll l
  | [] => by simp
  | x :: r => by
    have h1 := bulk_len r
    have h2 := bulk_pos x
    rw [Rows.uptoBulkAll, List.length_cons]; omega
theorem okUpto {H : Type} : OkP (H := H) 1048576 (fun d => Rows.uptoBulk d ≤ 1048576) := by
  refine ⟨fun b h _ => ?_, fun e s h _ => ⟨?_, fun d hd => ?_⟩, fun e h d hd => ?_⟩
  · simp only [Rows.uptoBulk] at h; omega
  · simp only [Rows.uptoBulk] at h; have := bulk_len e; omega
  · simp only [Rows.uptoBulk] at h; have := bulk_mem hd; omega
  · simp only [Rows.uptoBulk] at h; have := bulk_mem hd; omega
theorem ok_of_small {H : Type} {l : List (DataW H)} (h : Rows.uptoSmall H l = true) : ∀ d ∈ l, Rows.uptoBulk d ≤ 1048576 := fun d hd => by
  have h1 : Rows.uptoBulkAll l ≤ 1048576 := of_decide_eq_true h
  have := bulk_mem hd
  omega
end Go.Proofs.YtnajpmepcffnaaaGreatDoor
