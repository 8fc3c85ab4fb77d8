/- key: the first statement at whatever arguments read as data. -/
import Derived.Test.YtlmdacgkaailiaaDoorArgsKey
import Derived.Test.YtlmdacgkaailiaaDoorLawKey1
namespace Go.Proofs.YtlmdacgkaailiaaDoor
open Go.Ve

theorem KeyTells_args (xs : List AV) (h : WfA ty 1048576 [48, 57, 59, 9, 3] xs) : PCall P 11 xs (.bool true) := by
  obtain ⟨x1, r1, rfl, h1, h⟩ := h.cons_inv
  obtain ⟨x2, r2, rfl, h2, h⟩ := h.cons_inv
  obtain ⟨x3, r3, rfl, h3, h⟩ := h.cons_inv
  obtain ⟨x4, r4, rfl, h4, h⟩ := h.cons_inv
  obtain ⟨x5, r5, rfl, h5, h⟩ := h.cons_inv
  obtain rfl := h.nil_inv
  obtain ⟨k, rfl, hk⟩ := key_inv h1
  obtain ⟨a', rfl, ha⟩ := h2.int_inv rfl
  obtain ⟨a, rfl, ha2⟩ := u32_lit ha
  obtain ⟨W, rfl, hW⟩ := wide_inv h3
  obtain ⟨p, rfl, hp⟩ := h4.str_inv rfl
  obtain ⟨kind, rfl, _⟩ := h5.int_inv rfl
  exact KeyTells_ok k hk.n hk.path a ha2 W hW p hp kind
end Go.Proofs.YtlmdacgkaailiaaDoor
