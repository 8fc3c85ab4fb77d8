/- label: the statements' walks, at whatever arguments read as data. -/
import Derived.Test.YtlmdacgkaailiaaDoorLawLabel3
namespace Go.Proofs.YtlmdacgkaailiaaDoor
open Go.Ve

theorem strs_of {es : List (List AV)} (h : ∀ c ∈ es, Wf ty 9 c) : ∃ l, es = strs l ∧ ∀ x ∈ l, x.length ≤ 9223372036854775807 := by
  induction es with
  | nil => exact ⟨[], rfl, by simp⟩
  | cons c es ih =>
    obtain ⟨l, rfl, hl⟩ := ih fun d hd => h d (List.mem_cons_of_mem _ hd)
    obtain ⟨s, rfl, hs⟩ := (h c List.mem_cons_self).str_inv rfl
    exact ⟨s :: l, rfl, fun x hx => by
      rcases List.mem_cons.1 hx with rfl | hx
      · exact hs
      · exact hl x hx⟩


theorem LabelJoins_args (xs : List AV) (h : WfA ty [23] xs) : PCall P 4 xs (.bool true) := by
  obtain ⟨x, r, rfl, h1, h2⟩ := h.cons_inv
  obtain rfl := h2.nil_inv
  rcases h1.slice_inv rfl with rfl | ⟨es, rfl, hl, he⟩
  · exact pNil (LabelJoins_ok [] (by simp) (by simp))
  · obtain ⟨l, rfl, hx⟩ := strs_of he
    rw [strs_len] at hl
    exact LabelJoins_ok l hx hl
end Go.Proofs.YtlmdacgkaailiaaDoor
