/- The types of this program, as far as the proofs use them: made by program. -/
import Derived.Test.YtlmdacgkaailiaaXvb
import Derived.Test.YtlmdacgkaailiaaChecked
namespace Go.Proofs.Ytlmdacgkaailiaa
open Go.Ve
noncomputable abbrev P : Program := Try.prog
theorem t1 : TyOk Try.prog 1 ⟨.func, 1, 8, [.nilf], []⟩ := ⟨by kernel_rfl, rfl, rfl, ⟨_, _, _, Try.underlying1⟩, fun h => absurd rfl h⟩
theorem t2 : TyOk Try.prog 2 ⟨.int .i64, 1, 8, [.int .i64 0], []⟩ := ⟨by kernel_rfl, rfl, rfl, Try.underlying2, fun h => absurd rfl h⟩
theorem t3 : TyOk Try.prog 3 ⟨.int .i64, 1, 8, [.int .i64 0], []⟩ := ⟨by kernel_rfl, rfl, rfl, Try.underlying3, fun h => absurd rfl h⟩
theorem t4 : TyOk Try.prog 4 ⟨.bool, 1, 1, [.bool false], []⟩ := ⟨by kernel_rfl, rfl, rfl, Try.underlying4, fun h => absurd rfl h⟩
theorem t5 : TyOk Try.prog 5 ⟨.int .u8, 1, 1, [.int .u8 0], []⟩ := ⟨by kernel_rfl, rfl, rfl, Try.underlying5, fun h => absurd rfl h⟩
theorem t9 : TyOk Try.prog 9 ⟨.str, 1, 16, [.str []], []⟩ := ⟨by kernel_rfl, rfl, rfl, Try.underlying9, fun h => absurd rfl h⟩
theorem t12 : TyOk Try.prog 12 ⟨.int .u64, 1, 8, [.int .u64 0], []⟩ := ⟨by kernel_rfl, rfl, rfl, Try.underlying12, fun h => absurd rfl h⟩
theorem t21 : TyOk Try.prog 21 ⟨.int .i32, 1, 4, [.int .i32 0], []⟩ := ⟨by kernel_rfl, rfl, rfl, Try.underlying21, fun h => absurd rfl h⟩
theorem t22 : TyOk Try.prog 22 ⟨.slice 32, 1, 24, [.nils], []⟩ := ⟨by kernel_rfl, rfl, rfl, Try.underlying22, fun h => absurd rfl h⟩
theorem t23 : TyOk Try.prog 23 ⟨.ptr, 1, 8, [.nilp], []⟩ := ⟨by kernel_rfl, rfl, rfl, ⟨_, Try.underlying23, by kernel_rfl⟩, fun h => absurd rfl h⟩
theorem t24 : TyOk Try.prog 24 ⟨.slice 5, 1, 24, [.nils], []⟩ := ⟨by kernel_rfl, rfl, rfl, Try.underlying24, fun h => absurd rfl h⟩
theorem t27 : TyOk Try.prog 27 ⟨.func, 1, 8, [.nilf], []⟩ := ⟨by kernel_rfl, rfl, rfl, ⟨_, _, _, Try.underlying27⟩, fun h => absurd rfl h⟩
theorem t28 : TyOk Try.prog 28 ⟨.int .u64, 1, 8, [.int .u64 0], []⟩ := ⟨by kernel_rfl, rfl, rfl, Try.underlying28, fun h => absurd rfl h⟩
theorem t33 : TyOk Try.prog 33 ⟨.func, 1, 8, [.nilf], []⟩ := ⟨by kernel_rfl, rfl, rfl, ⟨_, _, _, Try.underlying33⟩, fun h => absurd rfl h⟩
theorem t34 : TyOk Try.prog 34 ⟨.func, 1, 8, [.nilf], []⟩ := ⟨by kernel_rfl, rfl, rfl, ⟨_, _, _, Try.underlying34⟩, fun h => absurd rfl h⟩
theorem t35 : TyOk Try.prog 35 ⟨.func, 1, 8, [.nilf], []⟩ := ⟨by kernel_rfl, rfl, rfl, ⟨_, _, _, Try.underlying35⟩, fun h => absurd rfl h⟩
theorem t36 : TyOk Try.prog 36 ⟨.func, 1, 8, [.nilf], []⟩ := ⟨by kernel_rfl, rfl, rfl, ⟨_, _, _, Try.underlying36⟩, fun h => absurd rfl h⟩
theorem t37 : TyOk Try.prog 37 ⟨.func, 1, 8, [.nilf], []⟩ := ⟨by kernel_rfl, rfl, rfl, ⟨_, _, _, Try.underlying37⟩, fun h => absurd rfl h⟩
theorem t38 : TyOk Try.prog 38 ⟨.ptr, 1, 8, [.nilp], []⟩ := ⟨by kernel_rfl, rfl, rfl, ⟨_, Try.underlying38, by kernel_rfl⟩, fun h => absurd rfl h⟩
theorem t39 : TyOk Try.prog 39 ⟨.func, 1, 8, [.nilf], []⟩ := ⟨by kernel_rfl, rfl, rfl, ⟨_, _, _, Try.underlying39⟩, fun h => absurd rfl h⟩
theorem t40 : TyOk Try.prog 40 ⟨.ptr, 1, 8, [.nilp], []⟩ := ⟨by kernel_rfl, rfl, rfl, ⟨_, Try.underlying40, by kernel_rfl⟩, fun h => absurd rfl h⟩
theorem t41 : TyOk Try.prog 41 ⟨.int .i64, 1, 8, [.int .i64 0], []⟩ := ⟨by kernel_rfl, rfl, rfl, Try.underlying41, fun h => absurd rfl h⟩
theorem t44 : TyOk Try.prog 44 ⟨.func, 1, 8, [.nilf], []⟩ := ⟨by kernel_rfl, rfl, rfl, ⟨_, _, _, Try.underlying44⟩, fun h => absurd rfl h⟩
theorem t45 : TyOk Try.prog 45 ⟨.func, 1, 8, [.nilf], []⟩ := ⟨by kernel_rfl, rfl, rfl, ⟨_, _, _, Try.underlying45⟩, fun h => absurd rfl h⟩
theorem t46 : TyOk Try.prog 46 ⟨.func, 1, 8, [.nilf], []⟩ := ⟨by kernel_rfl, rfl, rfl, ⟨_, _, _, Try.underlying46⟩, fun h => absurd rfl h⟩
theorem t49 : TyOk Try.prog 49 ⟨.func, 1, 8, [.nilf], []⟩ := ⟨by kernel_rfl, rfl, rfl, ⟨_, _, _, Try.underlying49⟩, fun h => absurd rfl h⟩
theorem t50 : TyOk Try.prog 50 ⟨.func, 1, 8, [.nilf], []⟩ := ⟨by kernel_rfl, rfl, rfl, ⟨_, _, _, Try.underlying50⟩, fun h => absurd rfl h⟩
theorem t51 : TyOk Try.prog 51 ⟨.func, 1, 8, [.nilf], []⟩ := ⟨by kernel_rfl, rfl, rfl, ⟨_, _, _, Try.underlying51⟩, fun h => absurd rfl h⟩
theorem t52 : TyOk Try.prog 52 ⟨.func, 1, 8, [.nilf], []⟩ := ⟨by kernel_rfl, rfl, rfl, ⟨_, _, _, Try.underlying52⟩, fun h => absurd rfl h⟩
theorem t53 : TyOk Try.prog 53 ⟨.func, 1, 8, [.nilf], []⟩ := ⟨by kernel_rfl, rfl, rfl, ⟨_, _, _, Try.underlying53⟩, fun h => absurd rfl h⟩
theorem t54 : TyOk Try.prog 54 ⟨.func, 1, 8, [.nilf], []⟩ := ⟨by kernel_rfl, rfl, rfl, ⟨_, _, _, Try.underlying54⟩, fun h => absurd rfl h⟩
theorem t55 : TyOk Try.prog 55 ⟨.func, 1, 8, [.nilf], []⟩ := ⟨by kernel_rfl, rfl, rfl, ⟨_, _, _, Try.underlying55⟩, fun h => absurd rfl h⟩
theorem t56 : TyOk Try.prog 56 ⟨.func, 1, 8, [.nilf], []⟩ := ⟨by kernel_rfl, rfl, rfl, ⟨_, _, _, Try.underlying56⟩, fun h => absurd rfl h⟩
theorem t57 : TyOk Try.prog 57 ⟨.func, 1, 8, [.nilf], []⟩ := ⟨by kernel_rfl, rfl, rfl, ⟨_, _, _, Try.underlying57⟩, fun h => absurd rfl h⟩
theorem t58 : TyOk Try.prog 58 ⟨.func, 1, 8, [.nilf], []⟩ := ⟨by kernel_rfl, rfl, rfl, ⟨_, _, _, Try.underlying58⟩, fun h => absurd rfl h⟩
theorem t59 : TyOk Try.prog 59 ⟨.func, 1, 8, [.nilf], []⟩ := ⟨by kernel_rfl, rfl, rfl, ⟨_, _, _, Try.underlying59⟩, fun h => absurd rfl h⟩
theorem t60 : TyOk Try.prog 60 ⟨.func, 1, 8, [.nilf], []⟩ := ⟨by kernel_rfl, rfl, rfl, ⟨_, _, _, Try.underlying60⟩, fun h => absurd rfl h⟩
theorem t61 : TyOk Try.prog 61 ⟨.func, 1, 8, [.nilf], []⟩ := ⟨by kernel_rfl, rfl, rfl, ⟨_, _, _, Try.underlying61⟩, fun h => absurd rfl h⟩
theorem t63 : TyOk Try.prog 63 ⟨.func, 1, 8, [.nilf], []⟩ := ⟨by kernel_rfl, rfl, rfl, ⟨_, _, _, Try.underlying63⟩, fun h => absurd rfl h⟩
theorem t64 : TyOk Try.prog 64 ⟨.func, 1, 8, [.nilf], []⟩ := ⟨by kernel_rfl, rfl, rfl, ⟨_, _, _, Try.underlying64⟩, fun h => absurd rfl h⟩
theorem t65 : TyOk Try.prog 65 ⟨.func, 1, 8, [.nilf], []⟩ := ⟨by kernel_rfl, rfl, rfl, ⟨_, _, _, Try.underlying65⟩, fun h => absurd rfl h⟩
theorem t66 : TyOk Try.prog 66 ⟨.func, 1, 8, [.nilf], []⟩ := ⟨by kernel_rfl, rfl, rfl, ⟨_, _, _, Try.underlying66⟩, fun h => absurd rfl h⟩
theorem t67 : TyOk Try.prog 67 ⟨.func, 1, 8, [.nilf], []⟩ := ⟨by kernel_rfl, rfl, rfl, ⟨_, _, _, Try.underlying67⟩, fun h => absurd rfl h⟩
theorem t68 : TyOk Try.prog 68 ⟨.int .u64, 1, 8, [.int .u64 0], []⟩ := ⟨by kernel_rfl, rfl, rfl, Try.underlying68, fun h => absurd rfl h⟩
theorem t69 : TyOk Try.prog 69 ⟨.func, 1, 8, [.nilf], []⟩ := ⟨by kernel_rfl, rfl, rfl, ⟨_, _, _, Try.underlying69⟩, fun h => absurd rfl h⟩
theorem t70 : TyOk Try.prog 70 ⟨.func, 1, 8, [.nilf], []⟩ := ⟨by kernel_rfl, rfl, rfl, ⟨_, _, _, Try.underlying70⟩, fun h => absurd rfl h⟩
theorem t71 : TyOk Try.prog 71 ⟨.func, 1, 8, [.nilf], []⟩ := ⟨by kernel_rfl, rfl, rfl, ⟨_, _, _, Try.underlying71⟩, fun h => absurd rfl h⟩
theorem t77 : TyOk Try.prog 77 ⟨.int .u32, 1, 4, [.int .u32 0], []⟩ := ⟨by kernel_rfl, rfl, rfl, Try.underlying77, fun h => absurd rfl h⟩
theorem t80 : TyOk Try.prog 80 ⟨.func, 1, 8, [.nilf], []⟩ := ⟨by kernel_rfl, rfl, rfl, ⟨_, _, _, Try.underlying80⟩, fun h => absurd rfl h⟩
theorem t81 : TyOk Try.prog 81 ⟨.ptr, 1, 8, [.nilp], []⟩ := ⟨by kernel_rfl, rfl, rfl, ⟨_, Try.underlying81, by kernel_rfl⟩, fun h => absurd rfl h⟩
theorem t25 : TyOk Try.prog 25 ⟨.struct [(0, 24)], 1, 24, [.nils], []⟩ := ⟨by kernel_rfl, rfl, rfl, ⟨_, Try.underlying25, rfl, by kernel_rfl⟩, fun h => absurd rfl h⟩
theorem t26 : TyOk Try.prog 26 ⟨.struct [(0, 24)], 1, 24, [.nils], []⟩ := ⟨by kernel_rfl, rfl, rfl, ⟨_, Try.underlying26, rfl, by kernel_rfl⟩, fun h => absurd rfl h⟩
theorem t29 : TyOk Try.prog 29 ⟨.struct [(0, 28), (1, 28)], 2, 16, [.int .u64 0, .int .u64 0], [.int .u64, .int .u64]⟩ := ⟨by kernel_rfl, rfl, rfl, ⟨_, Try.underlying29, rfl, by kernel_rfl⟩, eqT_ok (h := 2) (by decide) (by kernel_rfl) (eqT_struct (h := 1) (by decide) Try.underlying29 (by kernel_rfl) (.leaf rfl (by decide) ⟨_, Try.underlying28⟩ (.leaf rfl (by decide) ⟨_, Try.underlying28⟩ (.nil _))))⟩
theorem t30 : TyOk Try.prog 30 ⟨.struct [(0, 28), (1, 28)], 2, 16, [.int .u64 0, .int .u64 0], [.int .u64, .int .u64]⟩ := ⟨by kernel_rfl, rfl, rfl, ⟨_, Try.underlying30, rfl, by kernel_rfl⟩, eqT_ok (h := 2) (by decide) (by kernel_rfl) (eqT_struct (h := 1) (by decide) Try.underlying30 (by kernel_rfl) (.leaf rfl (by decide) ⟨_, Try.underlying28⟩ (.leaf rfl (by decide) ⟨_, Try.underlying28⟩ (.nil _))))⟩
theorem t42 : TyOk Try.prog 42 ⟨.struct [(0, 24), (1, 3), (2, 41)], 3, 40, [.nils, .int .i64 0, .int .i64 0], []⟩ := ⟨by kernel_rfl, rfl, rfl, ⟨_, Try.underlying42, rfl, by kernel_rfl⟩, fun h => absurd rfl h⟩
theorem t43 : TyOk Try.prog 43 ⟨.struct [(0, 24), (1, 3), (2, 41)], 3, 40, [.nils, .int .i64 0, .int .i64 0], []⟩ := ⟨by kernel_rfl, rfl, rfl, ⟨_, Try.underlying43, rfl, by kernel_rfl⟩, fun h => absurd rfl h⟩
theorem t47 : TyOk Try.prog 47 ⟨.struct [(0, 4), (1, 24), (2, 41)], 3, 40, [.bool false, .nils, .int .i64 0], []⟩ := ⟨by kernel_rfl, rfl, rfl, ⟨_, Try.underlying47, rfl, by kernel_rfl⟩, fun h => absurd rfl h⟩
theorem t48 : TyOk Try.prog 48 ⟨.struct [(0, 4), (1, 24), (2, 41)], 3, 40, [.bool false, .nils, .int .i64 0], []⟩ := ⟨by kernel_rfl, rfl, rfl, ⟨_, Try.underlying48, rfl, by kernel_rfl⟩, fun h => absurd rfl h⟩
theorem t62 : TyOk Try.prog 62 ⟨.struct [(0, 28), (1, 28)], 2, 16, [.int .u64 0, .int .u64 0], [.int .u64, .int .u64]⟩ := ⟨by kernel_rfl, rfl, rfl, ⟨_, Try.underlying62, rfl, by kernel_rfl⟩, eqT_ok (h := 2) (by decide) (by kernel_rfl) (eqT_struct (h := 1) (by decide) Try.underlying62 (by kernel_rfl) (.leaf rfl (by decide) ⟨_, Try.underlying28⟩ (.leaf rfl (by decide) ⟨_, Try.underlying28⟩ (.nil _))))⟩
theorem t31 : TyOk Try.prog 31 ⟨.struct [(0, 3), (1, 3), (2, 28), (3, 30), (5, 9), (6, 24)], 7, 80, [.int .i64 0, .int .i64 0, .int .u64 0, .int .u64 0, .int .u64 0, .str [], .nils], []⟩ := ⟨by kernel_rfl, rfl, rfl, ⟨_, Try.underlying31, rfl, by kernel_rfl⟩, fun h => absurd rfl h⟩
theorem t32 : TyOk Try.prog 32 ⟨.struct [(0, 3), (1, 3), (2, 28), (3, 30), (5, 9), (6, 24)], 7, 80, [.int .i64 0, .int .i64 0, .int .u64 0, .int .u64 0, .int .u64 0, .str [], .nils], []⟩ := ⟨by kernel_rfl, rfl, rfl, ⟨_, Try.underlying32, rfl, by kernel_rfl⟩, fun h => absurd rfl h⟩
def tyL : List (Option TI) := [none,
  some ⟨.func, 1, 8, [.nilf], []⟩,
  some ⟨.int .i64, 1, 8, [.int .i64 0], []⟩,
  some ⟨.int .i64, 1, 8, [.int .i64 0], []⟩,
  some ⟨.bool, 1, 1, [.bool false], []⟩,
  some ⟨.int .u8, 1, 1, [.int .u8 0], []⟩,
  none,
  none,
  none,
  some ⟨.str, 1, 16, [.str []], []⟩,
  none,
  none,
  some ⟨.int .u64, 1, 8, [.int .u64 0], []⟩,
  none,
  none,
  none,
  none,
  none,
  none,
  none,
  none,
  some ⟨.int .i32, 1, 4, [.int .i32 0], []⟩,
  some ⟨.slice 32, 1, 24, [.nils], []⟩,
  some ⟨.ptr, 1, 8, [.nilp], []⟩,
  some ⟨.slice 5, 1, 24, [.nils], []⟩,
  some ⟨.struct [(0, 24)], 1, 24, [.nils], []⟩,
  some ⟨.struct [(0, 24)], 1, 24, [.nils], []⟩,
  some ⟨.func, 1, 8, [.nilf], []⟩,
  some ⟨.int .u64, 1, 8, [.int .u64 0], []⟩,
  some ⟨.struct [(0, 28), (1, 28)], 2, 16, [.int .u64 0, .int .u64 0], [.int .u64, .int .u64]⟩,
  some ⟨.struct [(0, 28), (1, 28)], 2, 16, [.int .u64 0, .int .u64 0], [.int .u64, .int .u64]⟩,
  some ⟨.struct [(0, 3), (1, 3), (2, 28), (3, 30), (5, 9), (6, 24)], 7, 80, [.int .i64 0, .int .i64 0, .int .u64 0, .int .u64 0, .int .u64 0, .str [], .nils], []⟩,
  some ⟨.struct [(0, 3), (1, 3), (2, 28), (3, 30), (5, 9), (6, 24)], 7, 80, [.int .i64 0, .int .i64 0, .int .u64 0, .int .u64 0, .int .u64 0, .str [], .nils], []⟩,
  some ⟨.func, 1, 8, [.nilf], []⟩,
  some ⟨.func, 1, 8, [.nilf], []⟩,
  some ⟨.func, 1, 8, [.nilf], []⟩,
  some ⟨.func, 1, 8, [.nilf], []⟩,
  some ⟨.func, 1, 8, [.nilf], []⟩,
  some ⟨.ptr, 1, 8, [.nilp], []⟩,
  some ⟨.func, 1, 8, [.nilf], []⟩,
  some ⟨.ptr, 1, 8, [.nilp], []⟩,
  some ⟨.int .i64, 1, 8, [.int .i64 0], []⟩,
  some ⟨.struct [(0, 24), (1, 3), (2, 41)], 3, 40, [.nils, .int .i64 0, .int .i64 0], []⟩,
  some ⟨.struct [(0, 24), (1, 3), (2, 41)], 3, 40, [.nils, .int .i64 0, .int .i64 0], []⟩,
  some ⟨.func, 1, 8, [.nilf], []⟩,
  some ⟨.func, 1, 8, [.nilf], []⟩,
  some ⟨.func, 1, 8, [.nilf], []⟩,
  some ⟨.struct [(0, 4), (1, 24), (2, 41)], 3, 40, [.bool false, .nils, .int .i64 0], []⟩,
  some ⟨.struct [(0, 4), (1, 24), (2, 41)], 3, 40, [.bool false, .nils, .int .i64 0], []⟩,
  some ⟨.func, 1, 8, [.nilf], []⟩,
  some ⟨.func, 1, 8, [.nilf], []⟩,
  some ⟨.func, 1, 8, [.nilf], []⟩,
  some ⟨.func, 1, 8, [.nilf], []⟩,
  some ⟨.func, 1, 8, [.nilf], []⟩,
  some ⟨.func, 1, 8, [.nilf], []⟩,
  some ⟨.func, 1, 8, [.nilf], []⟩,
  some ⟨.func, 1, 8, [.nilf], []⟩,
  some ⟨.func, 1, 8, [.nilf], []⟩,
  some ⟨.func, 1, 8, [.nilf], []⟩,
  some ⟨.func, 1, 8, [.nilf], []⟩,
  some ⟨.func, 1, 8, [.nilf], []⟩,
  some ⟨.func, 1, 8, [.nilf], []⟩,
  some ⟨.struct [(0, 28), (1, 28)], 2, 16, [.int .u64 0, .int .u64 0], [.int .u64, .int .u64]⟩,
  some ⟨.func, 1, 8, [.nilf], []⟩,
  some ⟨.func, 1, 8, [.nilf], []⟩,
  some ⟨.func, 1, 8, [.nilf], []⟩,
  some ⟨.func, 1, 8, [.nilf], []⟩,
  some ⟨.func, 1, 8, [.nilf], []⟩,
  some ⟨.int .u64, 1, 8, [.int .u64 0], []⟩,
  some ⟨.func, 1, 8, [.nilf], []⟩,
  some ⟨.func, 1, 8, [.nilf], []⟩,
  some ⟨.func, 1, 8, [.nilf], []⟩,
  none,
  none,
  none,
  none,
  none,
  some ⟨.int .u32, 1, 4, [.int .u32 0], []⟩,
  none,
  none,
  some ⟨.func, 1, 8, [.nilf], []⟩,
  some ⟨.ptr, 1, 8, [.nilp], []⟩,
  none,
  none,
  none,
  none,
  none]
def ty : TT := fun t => (tyL[t]?).join
theorem tok : TOk P ty := tok_of (.none (.some t1 (.some t2 (.some t3 (.some t4 (.some t5 (.none (.none (.none (.some t9 (.none (.none (.some t12 (.none (.none (.none (.none (.none (.none (.none (.none (.some t21 (.some t22 (.some t23 (.some t24 (.some t25 (.some t26 (.some t27 (.some t28 (.some t29 (.some t30 (.some t31 (.some t32 (.some t33 (.some t34 (.some t35 (.some t36 (.some t37 (.some t38 (.some t39 (.some t40 (.some t41 (.some t42 (.some t43 (.some t44 (.some t45 (.some t46 (.some t47 (.some t48 (.some t49 (.some t50 (.some t51 (.some t52 (.some t53 (.some t54 (.some t55 (.some t56 (.some t57 (.some t58 (.some t59 (.some t60 (.some t61 (.some t62 (.some t63 (.some t64 (.some t65 (.some t66 (.some t67 (.some t68 (.some t69 (.some t70 (.some t71 (.none (.none (.none (.none (.none (.some t77 (.none (.none (.some t80 (.some t81 (.none (.none (.none (.none (.none (.nil _))))))))))))))))))))))))))))))))))))))))))))))))))))))))))))))))))))))))))))))))))))))))
theorem mixed : P.follows .mixedOrders = true := by kernel_rfl
end Go.Proofs.Ytlmdacgkaailiaa
