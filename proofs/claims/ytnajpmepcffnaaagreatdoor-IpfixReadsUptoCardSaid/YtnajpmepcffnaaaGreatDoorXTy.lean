/- The types of this program, as far as the proofs use them: made by program. -/
import Derived.Test.YtnajpmepcffnaaaGreatDoorXvb
import Derived.Test.YtnajpmepcffnaaaGreatDoorChecked
namespace Go.Proofs.YtnajpmepcffnaaaGreatDoor
open Go.Ve
set_option maxRecDepth 20000
noncomputable abbrev P : Program := Tryz.prog
/-- Contracts of the library do not tell the draws. -/
instance : Dr := ⟨⟨False⟩⟩
theorem t2 : TyOk Tryz.prog 2 ⟨.int .i64, 1, 8, [.int .i64 0], []⟩ := ⟨by kernel_rfl, rfl, rfl, Tryz.underlying2, fun h => absurd rfl h⟩
theorem t3 : TyOk Tryz.prog 3 ⟨.int .i64, 1, 8, [.int .i64 0], []⟩ := ⟨by kernel_rfl, rfl, rfl, Tryz.underlying3, fun h => absurd rfl h⟩
theorem t4 : TyOk Tryz.prog 4 ⟨.bool, 1, 1, [.bool false], []⟩ := ⟨by kernel_rfl, rfl, rfl, Tryz.underlying4, fun h => absurd rfl h⟩
theorem t5 : TyOk Tryz.prog 5 ⟨.int .u8, 1, 1, [.int .u8 0], []⟩ := ⟨by kernel_rfl, rfl, rfl, Tryz.underlying5, fun h => absurd rfl h⟩
theorem t9 : TyOk Tryz.prog 9 ⟨.str, 1, 16, [.str []], []⟩ := ⟨by kernel_rfl, rfl, rfl, Tryz.underlying9, fun h => absurd rfl h⟩
theorem t12 : TyOk Tryz.prog 12 ⟨.int .u64, 1, 8, [.int .u64 0], []⟩ := ⟨by kernel_rfl, rfl, rfl, Tryz.underlying12, fun h => absurd rfl h⟩
theorem t21 : TyOk Tryz.prog 21 ⟨.int .i32, 1, 4, [.int .i32 0], []⟩ := ⟨by kernel_rfl, rfl, rfl, Tryz.underlying21, fun h => absurd rfl h⟩
theorem t22 : TyOk Tryz.prog 22 ⟨.slice 33, 1, 24, [.nils], []⟩ := ⟨by kernel_rfl, rfl, rfl, Tryz.underlying22, fun h => absurd rfl h⟩
theorem t23 : TyOk Tryz.prog 23 ⟨.ptr, 1, 8, [.nilp], []⟩ := ⟨by kernel_rfl, rfl, rfl, ⟨_, Tryz.underlying23, by kernel_rfl⟩, fun h => absurd rfl h⟩
theorem t25 : TyOk Tryz.prog 25 ⟨.slice 62, 1, 24, [.nils], []⟩ := ⟨by kernel_rfl, rfl, rfl, Tryz.underlying25, fun h => absurd rfl h⟩
theorem t26 : TyOk Tryz.prog 26 ⟨.slice 55, 1, 24, [.nils], []⟩ := ⟨by kernel_rfl, rfl, rfl, Tryz.underlying26, fun h => absurd rfl h⟩
theorem t27 : TyOk Tryz.prog 27 ⟨.int .u32, 1, 4, [.int .u32 0], []⟩ := ⟨by kernel_rfl, rfl, rfl, Tryz.underlying27, fun h => absurd rfl h⟩
theorem t30 : TyOk Tryz.prog 30 ⟨.int .i64, 1, 8, [.int .i64 0], []⟩ := ⟨by kernel_rfl, rfl, rfl, Tryz.underlying30, fun h => absurd rfl h⟩
theorem t33 : TyOk Tryz.prog 33 ⟨.slice 5, 1, 24, [.nils], []⟩ := ⟨by kernel_rfl, rfl, rfl, Tryz.underlying33, fun h => absurd rfl h⟩
theorem t50 : TyOk Tryz.prog 50 ⟨.int .u64, 1, 8, [.int .u64 0], []⟩ := ⟨by kernel_rfl, rfl, rfl, Tryz.underlying50, fun h => absurd rfl h⟩
theorem t56 : TyOk Tryz.prog 56 ⟨.slice 82, 1, 24, [.nils], []⟩ := ⟨by kernel_rfl, rfl, rfl, Tryz.underlying56, fun h => absurd rfl h⟩
theorem t65 : TyOk Tryz.prog 65 ⟨.map 98 58, 1, 8, [.nilm], []⟩ := ⟨by kernel_rfl, rfl, rfl, ⟨Tryz.underlying65, by kernel_rfl, by kernel_rfl, by kernel_rfl⟩, fun h => absurd rfl h⟩
theorem t70 : TyOk Tryz.prog 70 ⟨.ptr, 1, 8, [.nilp], []⟩ := ⟨by kernel_rfl, rfl, rfl, ⟨_, Tryz.underlying70, by kernel_rfl⟩, fun h => absurd rfl h⟩
theorem t74 : TyOk Tryz.prog 74 ⟨.slice 78, 1, 24, [.nils], []⟩ := ⟨by kernel_rfl, rfl, rfl, Tryz.underlying74, fun h => absurd rfl h⟩
theorem t84 : TyOk Tryz.prog 84 ⟨.slice 58, 1, 24, [.nils], []⟩ := ⟨by kernel_rfl, rfl, rfl, Tryz.underlying84, fun h => absurd rfl h⟩
theorem t87 : TyOk Tryz.prog 87 ⟨.slice 3, 1, 24, [.nils], []⟩ := ⟨by kernel_rfl, rfl, rfl, Tryz.underlying87, fun h => absurd rfl h⟩
theorem t90 : TyOk Tryz.prog 90 ⟨.ptr, 1, 8, [.nilp], []⟩ := ⟨by kernel_rfl, rfl, rfl, ⟨_, Tryz.underlying90, by kernel_rfl⟩, fun h => absurd rfl h⟩
theorem t95 : TyOk Tryz.prog 95 ⟨.slice 98, 1, 24, [.nils], []⟩ := ⟨by kernel_rfl, rfl, rfl, Tryz.underlying95, fun h => absurd rfl h⟩
theorem t105 : TyOk Tryz.prog 105 ⟨.ptr, 1, 8, [.nilp], []⟩ := ⟨by kernel_rfl, rfl, rfl, ⟨_, Tryz.underlying105, by kernel_rfl⟩, fun h => absurd rfl h⟩
theorem t116 : TyOk Tryz.prog 116 ⟨.ptr, 1, 8, [.nilp], []⟩ := ⟨by kernel_rfl, rfl, rfl, ⟨_, Tryz.underlying116, by kernel_rfl⟩, fun h => absurd rfl h⟩
theorem t141 : TyOk Tryz.prog 141 ⟨.int .u64, 1, 8, [.int .u64 0], []⟩ := ⟨by kernel_rfl, rfl, rfl, Tryz.underlying141, fun h => absurd rfl h⟩
theorem t152 : TyOk Tryz.prog 152 ⟨.slice 9, 1, 24, [.nils], []⟩ := ⟨by kernel_rfl, rfl, rfl, Tryz.underlying152, fun h => absurd rfl h⟩
theorem t171 : TyOk Tryz.prog 171 ⟨.slice 27, 1, 24, [.nils], []⟩ := ⟨by kernel_rfl, rfl, rfl, Tryz.underlying171, fun h => absurd rfl h⟩
theorem t177 : TyOk Tryz.prog 177 ⟨.int .i64, 1, 8, [.int .i64 0], []⟩ := ⟨by kernel_rfl, rfl, rfl, Tryz.underlying177, fun h => absurd rfl h⟩
theorem t191 : TyOk Tryz.prog 191 ⟨.int .u64, 1, 8, [.int .u64 0], []⟩ := ⟨by kernel_rfl, rfl, rfl, Tryz.underlying191, fun h => absurd rfl h⟩
theorem t195 : TyOk Tryz.prog 195 ⟨.ptr, 1, 8, [.nilp], []⟩ := ⟨by kernel_rfl, rfl, rfl, ⟨_, Tryz.underlying195, by kernel_rfl⟩, fun h => absurd rfl h⟩
theorem t206 : TyOk Tryz.prog 206 ⟨.ptr, 1, 8, [.nilp], []⟩ := ⟨by kernel_rfl, rfl, rfl, ⟨_, Tryz.underlying206, by kernel_rfl⟩, fun h => absurd rfl h⟩
theorem t225 : TyOk Tryz.prog 225 ⟨.ptr, 1, 8, [.nilp], []⟩ := ⟨by kernel_rfl, rfl, rfl, ⟨_, Tryz.underlying225, by kernel_rfl⟩, fun h => absurd rfl h⟩
theorem t247 : TyOk Tryz.prog 247 ⟨.ptr, 1, 8, [.nilp], []⟩ := ⟨by kernel_rfl, rfl, rfl, ⟨_, Tryz.underlying247, by kernel_rfl⟩, fun h => absurd rfl h⟩
theorem t28 : TyOk Tryz.prog 28 ⟨.struct [(0, 27), (1, 27), (2, 27), (3, 3), (4, 3)], 5, 32, [.int .u32 0, .int .u32 0, .int .u32 0, .int .i64 0, .int .i64 0], [.int .u32, .int .u32, .int .u32, .int .i64, .int .i64]⟩ := ⟨by kernel_rfl, rfl, rfl, ⟨_, Tryz.underlying28, rfl, by kernel_rfl⟩, eqT_ok (h := 2) (by decide) (by kernel_rfl) (eqT_struct (h := 1) (by decide) Tryz.underlying28 (by kernel_rfl) (.leaf rfl (by decide) ⟨_, Tryz.underlying27⟩ (.leaf rfl (by decide) ⟨_, Tryz.underlying27⟩ (.leaf rfl (by decide) ⟨_, Tryz.underlying27⟩ (.leaf rfl (by decide) ⟨_, Tryz.underlying3⟩ (.leaf rfl (by decide) ⟨_, Tryz.underlying3⟩ (.nil _)))))))⟩
theorem t29 : TyOk Tryz.prog 29 ⟨.struct [(0, 27), (1, 27), (2, 27), (3, 3), (4, 3)], 5, 32, [.int .u32 0, .int .u32 0, .int .u32 0, .int .i64 0, .int .i64 0], [.int .u32, .int .u32, .int .u32, .int .i64, .int .i64]⟩ := ⟨by kernel_rfl, rfl, rfl, ⟨_, Tryz.underlying29, rfl, by kernel_rfl⟩, eqT_ok (h := 2) (by decide) (by kernel_rfl) (eqT_struct (h := 1) (by decide) Tryz.underlying29 (by kernel_rfl) (.leaf rfl (by decide) ⟨_, Tryz.underlying27⟩ (.leaf rfl (by decide) ⟨_, Tryz.underlying27⟩ (.leaf rfl (by decide) ⟨_, Tryz.underlying27⟩ (.leaf rfl (by decide) ⟨_, Tryz.underlying3⟩ (.leaf rfl (by decide) ⟨_, Tryz.underlying3⟩ (.nil _)))))))⟩
theorem t51 : TyOk Tryz.prog 51 ⟨.struct [(0, 3), (1, 3), (2, 50), (3, 50), (4, 9)], 5, 48, [.int .i64 0, .int .i64 0, .int .u64 0, .int .u64 0, .str []], [.int .i64, .int .i64, .int .u64, .int .u64, .str]⟩ := ⟨by kernel_rfl, rfl, rfl, ⟨_, Tryz.underlying51, rfl, by kernel_rfl⟩, eqT_ok (h := 2) (by decide) (by kernel_rfl) (eqT_struct (h := 1) (by decide) Tryz.underlying51 (by kernel_rfl) (.leaf rfl (by decide) ⟨_, Tryz.underlying3⟩ (.leaf rfl (by decide) ⟨_, Tryz.underlying3⟩ (.leaf rfl (by decide) ⟨_, Tryz.underlying50⟩ (.leaf rfl (by decide) ⟨_, Tryz.underlying50⟩ (.leaf rfl (by decide) Tryz.underlying9 (.nil _)))))))⟩
theorem t52 : TyOk Tryz.prog 52 ⟨.struct [(0, 3), (1, 3), (2, 50), (3, 50), (4, 9)], 5, 48, [.int .i64 0, .int .i64 0, .int .u64 0, .int .u64 0, .str []], [.int .i64, .int .i64, .int .u64, .int .u64, .str]⟩ := ⟨by kernel_rfl, rfl, rfl, ⟨_, Tryz.underlying52, rfl, by kernel_rfl⟩, eqT_ok (h := 2) (by decide) (by kernel_rfl) (eqT_struct (h := 1) (by decide) Tryz.underlying52 (by kernel_rfl) (.leaf rfl (by decide) ⟨_, Tryz.underlying3⟩ (.leaf rfl (by decide) ⟨_, Tryz.underlying3⟩ (.leaf rfl (by decide) ⟨_, Tryz.underlying50⟩ (.leaf rfl (by decide) ⟨_, Tryz.underlying50⟩ (.leaf rfl (by decide) Tryz.underlying9 (.nil _)))))))⟩
theorem t57 : TyOk Tryz.prog 57 ⟨.struct [(0, 3), (1, 3), (2, 56)], 3, 40, [.int .i64 0, .int .i64 0, .nils], []⟩ := ⟨by kernel_rfl, rfl, rfl, ⟨_, Tryz.underlying57, rfl, by kernel_rfl⟩, fun h => absurd rfl h⟩
theorem t58 : TyOk Tryz.prog 58 ⟨.struct [(0, 3), (1, 3), (2, 56)], 3, 40, [.int .i64 0, .int .i64 0, .nils], []⟩ := ⟨by kernel_rfl, rfl, rfl, ⟨_, Tryz.underlying58, rfl, by kernel_rfl⟩, fun h => absurd rfl h⟩
theorem t66 : TyOk Tryz.prog 66 ⟨.struct [(0, 65)], 1, 8, [.nilm], []⟩ := ⟨by kernel_rfl, rfl, rfl, ⟨_, Tryz.underlying66, rfl, by kernel_rfl⟩, fun h => absurd rfl h⟩
theorem t67 : TyOk Tryz.prog 67 ⟨.struct [(0, 65)], 1, 8, [.nilm], []⟩ := ⟨by kernel_rfl, rfl, rfl, ⟨_, Tryz.underlying67, rfl, by kernel_rfl⟩, fun h => absurd rfl h⟩
theorem t77 : TyOk Tryz.prog 77 ⟨.struct [(0, 3), (1, 33)], 2, 32, [.int .i64 0, .nils], []⟩ := ⟨by kernel_rfl, rfl, rfl, ⟨_, Tryz.underlying77, rfl, by kernel_rfl⟩, fun h => absurd rfl h⟩
theorem t78 : TyOk Tryz.prog 78 ⟨.struct [(0, 3), (1, 33)], 2, 32, [.int .i64 0, .nils], []⟩ := ⟨by kernel_rfl, rfl, rfl, ⟨_, Tryz.underlying78, rfl, by kernel_rfl⟩, fun h => absurd rfl h⟩
theorem t81 : TyOk Tryz.prog 81 ⟨.struct [(0, 3), (1, 27), (2, 3)], 3, 24, [.int .i64 0, .int .u32 0, .int .i64 0], [.int .i64, .int .u32, .int .i64]⟩ := ⟨by kernel_rfl, rfl, rfl, ⟨_, Tryz.underlying81, rfl, by kernel_rfl⟩, eqT_ok (h := 2) (by decide) (by kernel_rfl) (eqT_struct (h := 1) (by decide) Tryz.underlying81 (by kernel_rfl) (.leaf rfl (by decide) ⟨_, Tryz.underlying3⟩ (.leaf rfl (by decide) ⟨_, Tryz.underlying27⟩ (.leaf rfl (by decide) ⟨_, Tryz.underlying3⟩ (.nil _)))))⟩
theorem t82 : TyOk Tryz.prog 82 ⟨.struct [(0, 3), (1, 27), (2, 3)], 3, 24, [.int .i64 0, .int .u32 0, .int .i64 0], [.int .i64, .int .u32, .int .i64]⟩ := ⟨by kernel_rfl, rfl, rfl, ⟨_, Tryz.underlying82, rfl, by kernel_rfl⟩, eqT_ok (h := 2) (by decide) (by kernel_rfl) (eqT_struct (h := 1) (by decide) Tryz.underlying82 (by kernel_rfl) (.leaf rfl (by decide) ⟨_, Tryz.underlying3⟩ (.leaf rfl (by decide) ⟨_, Tryz.underlying27⟩ (.leaf rfl (by decide) ⟨_, Tryz.underlying3⟩ (.nil _)))))⟩
theorem t88 : TyOk Tryz.prog 88 ⟨.struct [(0, 33)], 1, 24, [.nils], []⟩ := ⟨by kernel_rfl, rfl, rfl, ⟨_, Tryz.underlying88, rfl, by kernel_rfl⟩, fun h => absurd rfl h⟩
theorem t89 : TyOk Tryz.prog 89 ⟨.struct [(0, 33)], 1, 24, [.nils], []⟩ := ⟨by kernel_rfl, rfl, rfl, ⟨_, Tryz.underlying89, rfl, by kernel_rfl⟩, fun h => absurd rfl h⟩
theorem t97 : TyOk Tryz.prog 97 ⟨.struct [(0, 27), (1, 3)], 2, 16, [.int .u32 0, .int .i64 0], [.int .u32, .int .i64]⟩ := ⟨by kernel_rfl, rfl, rfl, ⟨_, Tryz.underlying97, rfl, by kernel_rfl⟩, eqT_ok (h := 2) (by decide) (by kernel_rfl) (eqT_struct (h := 1) (by decide) Tryz.underlying97 (by kernel_rfl) (.leaf rfl (by decide) ⟨_, Tryz.underlying27⟩ (.leaf rfl (by decide) ⟨_, Tryz.underlying3⟩ (.nil _))))⟩
theorem t98 : TyOk Tryz.prog 98 ⟨.struct [(0, 27), (1, 3)], 2, 16, [.int .u32 0, .int .i64 0], [.int .u32, .int .i64]⟩ := ⟨by kernel_rfl, rfl, rfl, ⟨_, Tryz.underlying98, rfl, by kernel_rfl⟩, eqT_ok (h := 2) (by decide) (by kernel_rfl) (eqT_struct (h := 1) (by decide) Tryz.underlying98 (by kernel_rfl) (.leaf rfl (by decide) ⟨_, Tryz.underlying27⟩ (.leaf rfl (by decide) ⟨_, Tryz.underlying3⟩ (.nil _))))⟩
theorem t114 : TyOk Tryz.prog 114 ⟨.struct [(0, 33), (1, 3), (2, 30)], 3, 40, [.nils, .int .i64 0, .int .i64 0], []⟩ := ⟨by kernel_rfl, rfl, rfl, ⟨_, Tryz.underlying114, rfl, by kernel_rfl⟩, fun h => absurd rfl h⟩
theorem t115 : TyOk Tryz.prog 115 ⟨.struct [(0, 33), (1, 3), (2, 30)], 3, 40, [.nils, .int .i64 0, .int .i64 0], []⟩ := ⟨by kernel_rfl, rfl, rfl, ⟨_, Tryz.underlying115, rfl, by kernel_rfl⟩, fun h => absurd rfl h⟩
theorem t139 : TyOk Tryz.prog 139 ⟨.struct [(0, 4), (1, 33), (2, 30)], 3, 40, [.bool false, .nils, .int .i64 0], []⟩ := ⟨by kernel_rfl, rfl, rfl, ⟨_, Tryz.underlying139, rfl, by kernel_rfl⟩, fun h => absurd rfl h⟩
theorem t140 : TyOk Tryz.prog 140 ⟨.struct [(0, 4), (1, 33), (2, 30)], 3, 40, [.bool false, .nils, .int .i64 0], []⟩ := ⟨by kernel_rfl, rfl, rfl, ⟨_, Tryz.underlying140, rfl, by kernel_rfl⟩, fun h => absurd rfl h⟩
theorem t164 : TyOk Tryz.prog 164 ⟨.struct [(0, 50), (1, 50)], 2, 16, [.int .u64 0, .int .u64 0], [.int .u64, .int .u64]⟩ := ⟨by kernel_rfl, rfl, rfl, ⟨_, Tryz.underlying164, rfl, by kernel_rfl⟩, eqT_ok (h := 2) (by decide) (by kernel_rfl) (eqT_struct (h := 1) (by decide) Tryz.underlying164 (by kernel_rfl) (.leaf rfl (by decide) ⟨_, Tryz.underlying50⟩ (.leaf rfl (by decide) ⟨_, Tryz.underlying50⟩ (.nil _))))⟩
theorem t165 : TyOk Tryz.prog 165 ⟨.struct [(0, 50), (1, 50)], 2, 16, [.int .u64 0, .int .u64 0], [.int .u64, .int .u64]⟩ := ⟨by kernel_rfl, rfl, rfl, ⟨_, Tryz.underlying165, rfl, by kernel_rfl⟩, eqT_ok (h := 2) (by decide) (by kernel_rfl) (eqT_struct (h := 1) (by decide) Tryz.underlying165 (by kernel_rfl) (.leaf rfl (by decide) ⟨_, Tryz.underlying50⟩ (.leaf rfl (by decide) ⟨_, Tryz.underlying50⟩ (.nil _))))⟩
theorem t212 : TyOk Tryz.prog 212 ⟨.array 16 5, 16, 16, [.int .u8 0, .int .u8 0, .int .u8 0, .int .u8 0, .int .u8 0, .int .u8 0, .int .u8 0, .int .u8 0, .int .u8 0, .int .u8 0, .int .u8 0, .int .u8 0, .int .u8 0, .int .u8 0, .int .u8 0, .int .u8 0], []⟩ := ⟨by kernel_rfl, rfl, rfl, ⟨Tryz.underlying212, by kernel_rfl⟩, fun h => absurd rfl h⟩
theorem t34 : TyOk Tryz.prog 34 ⟨.struct [(0, 25), (1, 29), (6, 26)], 7, 80, [.nils, .int .u32 0, .int .u32 0, .int .u32 0, .int .i64 0, .int .i64 0, .nils], []⟩ := ⟨by kernel_rfl, rfl, rfl, ⟨_, Tryz.underlying34, rfl, by kernel_rfl⟩, fun h => absurd rfl h⟩
theorem t35 : TyOk Tryz.prog 35 ⟨.struct [(0, 25), (1, 29), (6, 26)], 7, 80, [.nils, .int .u32 0, .int .u32 0, .int .u32 0, .int .i64 0, .int .i64 0, .nils], []⟩ := ⟨by kernel_rfl, rfl, rfl, ⟨_, Tryz.underlying35, rfl, by kernel_rfl⟩, fun h => absurd rfl h⟩
theorem t53 : TyOk Tryz.prog 53 ⟨.array 2 52, 10, 96, [.int .i64 0, .int .i64 0, .int .u64 0, .int .u64 0, .str [], .int .i64 0, .int .i64 0, .int .u64 0, .int .u64 0, .str []], [.int .i64, .int .i64, .int .u64, .int .u64, .str, .int .i64, .int .i64, .int .u64, .int .u64, .str]⟩ := ⟨by kernel_rfl, rfl, rfl, ⟨Tryz.underlying53, by kernel_rfl⟩, eqT_ok (h := 3) (by decide) (by kernel_rfl) (eqT_arrS (h := 2) (n := 2) (ks := [.int .i64, .int .i64, .int .u64, .int .u64, .str]) Tryz.underlying53 (Option.eq_some_of_isSome (by kernel_rfl)) (by kernel_rfl) (eqT_struct (h := 1) (by decide) Tryz.underlying52 (by kernel_rfl) (.leaf rfl (by decide) ⟨_, Tryz.underlying3⟩ (.leaf rfl (by decide) ⟨_, Tryz.underlying3⟩ (.leaf rfl (by decide) ⟨_, Tryz.underlying50⟩ (.leaf rfl (by decide) ⟨_, Tryz.underlying50⟩ (.leaf rfl (by decide) Tryz.underlying9 (.nil _))))))) (fun w => by simp [isAgg, run_underlying Tryz.underlying52]) (t52.sizeOf))⟩
theorem t61 : TyOk Tryz.prog 61 ⟨.struct [(0, 27), (1, 58)], 4, 48, [.int .u32 0, .int .i64 0, .int .i64 0, .nils], []⟩ := ⟨by kernel_rfl, rfl, rfl, ⟨_, Tryz.underlying61, rfl, by kernel_rfl⟩, fun h => absurd rfl h⟩
theorem t62 : TyOk Tryz.prog 62 ⟨.struct [(0, 27), (1, 58)], 4, 48, [.int .u32 0, .int .i64 0, .int .i64 0, .nils], []⟩ := ⟨by kernel_rfl, rfl, rfl, ⟨_, Tryz.underlying62, rfl, by kernel_rfl⟩, fun h => absurd rfl h⟩
theorem t71 : TyOk Tryz.prog 71 ⟨.struct [(0, 23), (1, 29), (6, 26)], 7, 64, [.nilp, .int .u32 0, .int .u32 0, .int .u32 0, .int .i64 0, .int .i64 0, .nils], []⟩ := ⟨by kernel_rfl, rfl, rfl, ⟨_, Tryz.underlying71, rfl, by kernel_rfl⟩, fun h => absurd rfl h⟩
theorem t72 : TyOk Tryz.prog 72 ⟨.struct [(0, 23), (1, 29), (6, 26)], 7, 64, [.nilp, .int .u32 0, .int .u32 0, .int .u32 0, .int .i64 0, .int .i64 0, .nils], []⟩ := ⟨by kernel_rfl, rfl, rfl, ⟨_, Tryz.underlying72, rfl, by kernel_rfl⟩, fun h => absurd rfl h⟩
theorem t54 : TyOk Tryz.prog 54 ⟨.struct [(0, 53), (10, 53), (20, 50), (21, 50)], 22, 208, [.int .i64 0, .int .i64 0, .int .u64 0, .int .u64 0, .str [], .int .i64 0, .int .i64 0, .int .u64 0, .int .u64 0, .str [], .int .i64 0, .int .i64 0, .int .u64 0, .int .u64 0, .str [], .int .i64 0, .int .i64 0, .int .u64 0, .int .u64 0, .str [], .int .u64 0, .int .u64 0], [.int .i64, .int .i64, .int .u64, .int .u64, .str, .int .i64, .int .i64, .int .u64, .int .u64, .str, .int .i64, .int .i64, .int .u64, .int .u64, .str, .int .i64, .int .i64, .int .u64, .int .u64, .str, .int .u64, .int .u64]⟩ := ⟨by kernel_rfl, rfl, rfl, ⟨_, Tryz.underlying54, rfl, by kernel_rfl⟩, eqT_ok (h := 4) (by decide) (by kernel_rfl) (eqT_struct (h := 3) (by decide) Tryz.underlying54 (by kernel_rfl) (.sub (ks := [.int .i64, .int .i64, .int .u64, .int .u64, .str, .int .i64, .int .i64, .int .u64, .int .u64, .str]) rfl (by decide) (EqT.up (h := 3) (by decide) (eqT_arrS (h := 2) (n := 2) (ks := [.int .i64, .int .i64, .int .u64, .int .u64, .str]) Tryz.underlying53 (Option.eq_some_of_isSome (by kernel_rfl)) (by kernel_rfl) (eqT_struct (h := 1) (by decide) Tryz.underlying52 (by kernel_rfl) (.leaf rfl (by decide) ⟨_, Tryz.underlying3⟩ (.leaf rfl (by decide) ⟨_, Tryz.underlying3⟩ (.leaf rfl (by decide) ⟨_, Tryz.underlying50⟩ (.leaf rfl (by decide) ⟨_, Tryz.underlying50⟩ (.leaf rfl (by decide) Tryz.underlying9 (.nil _))))))) (fun w => by simp [isAgg, run_underlying Tryz.underlying52]) (t52.sizeOf))) (fun w => by simp [isAgg, run_underlying Tryz.underlying53]) (t53.sizeOf) (.sub (ks := [.int .i64, .int .i64, .int .u64, .int .u64, .str, .int .i64, .int .i64, .int .u64, .int .u64, .str]) rfl (by decide) (EqT.up (h := 3) (by decide) (eqT_arrS (h := 2) (n := 2) (ks := [.int .i64, .int .i64, .int .u64, .int .u64, .str]) Tryz.underlying53 (Option.eq_some_of_isSome (by kernel_rfl)) (by kernel_rfl) (eqT_struct (h := 1) (by decide) Tryz.underlying52 (by kernel_rfl) (.leaf rfl (by decide) ⟨_, Tryz.underlying3⟩ (.leaf rfl (by decide) ⟨_, Tryz.underlying3⟩ (.leaf rfl (by decide) ⟨_, Tryz.underlying50⟩ (.leaf rfl (by decide) ⟨_, Tryz.underlying50⟩ (.leaf rfl (by decide) Tryz.underlying9 (.nil _))))))) (fun w => by simp [isAgg, run_underlying Tryz.underlying52]) (t52.sizeOf))) (fun w => by simp [isAgg, run_underlying Tryz.underlying53]) (t53.sizeOf) (.leaf rfl (by decide) ⟨_, Tryz.underlying50⟩ (.leaf rfl (by decide) ⟨_, Tryz.underlying50⟩ (.nil _))))))⟩
theorem t55 : TyOk Tryz.prog 55 ⟨.struct [(0, 53), (10, 53), (20, 50), (21, 50)], 22, 208, [.int .i64 0, .int .i64 0, .int .u64 0, .int .u64 0, .str [], .int .i64 0, .int .i64 0, .int .u64 0, .int .u64 0, .str [], .int .i64 0, .int .i64 0, .int .u64 0, .int .u64 0, .str [], .int .i64 0, .int .i64 0, .int .u64 0, .int .u64 0, .str [], .int .u64 0, .int .u64 0], [.int .i64, .int .i64, .int .u64, .int .u64, .str, .int .i64, .int .i64, .int .u64, .int .u64, .str, .int .i64, .int .i64, .int .u64, .int .u64, .str, .int .i64, .int .i64, .int .u64, .int .u64, .str, .int .u64, .int .u64]⟩ := ⟨by kernel_rfl, rfl, rfl, ⟨_, Tryz.underlying55, rfl, by kernel_rfl⟩, eqT_ok (h := 4) (by decide) (by kernel_rfl) (eqT_struct (h := 3) (by decide) Tryz.underlying55 (by kernel_rfl) (.sub (ks := [.int .i64, .int .i64, .int .u64, .int .u64, .str, .int .i64, .int .i64, .int .u64, .int .u64, .str]) rfl (by decide) (EqT.up (h := 3) (by decide) (eqT_arrS (h := 2) (n := 2) (ks := [.int .i64, .int .i64, .int .u64, .int .u64, .str]) Tryz.underlying53 (Option.eq_some_of_isSome (by kernel_rfl)) (by kernel_rfl) (eqT_struct (h := 1) (by decide) Tryz.underlying52 (by kernel_rfl) (.leaf rfl (by decide) ⟨_, Tryz.underlying3⟩ (.leaf rfl (by decide) ⟨_, Tryz.underlying3⟩ (.leaf rfl (by decide) ⟨_, Tryz.underlying50⟩ (.leaf rfl (by decide) ⟨_, Tryz.underlying50⟩ (.leaf rfl (by decide) Tryz.underlying9 (.nil _))))))) (fun w => by simp [isAgg, run_underlying Tryz.underlying52]) (t52.sizeOf))) (fun w => by simp [isAgg, run_underlying Tryz.underlying53]) (t53.sizeOf) (.sub (ks := [.int .i64, .int .i64, .int .u64, .int .u64, .str, .int .i64, .int .i64, .int .u64, .int .u64, .str]) rfl (by decide) (EqT.up (h := 3) (by decide) (eqT_arrS (h := 2) (n := 2) (ks := [.int .i64, .int .i64, .int .u64, .int .u64, .str]) Tryz.underlying53 (Option.eq_some_of_isSome (by kernel_rfl)) (by kernel_rfl) (eqT_struct (h := 1) (by decide) Tryz.underlying52 (by kernel_rfl) (.leaf rfl (by decide) ⟨_, Tryz.underlying3⟩ (.leaf rfl (by decide) ⟨_, Tryz.underlying3⟩ (.leaf rfl (by decide) ⟨_, Tryz.underlying50⟩ (.leaf rfl (by decide) ⟨_, Tryz.underlying50⟩ (.leaf rfl (by decide) Tryz.underlying9 (.nil _))))))) (fun w => by simp [isAgg, run_underlying Tryz.underlying52]) (t52.sizeOf))) (fun w => by simp [isAgg, run_underlying Tryz.underlying53]) (t53.sizeOf) (.leaf rfl (by decide) ⟨_, Tryz.underlying50⟩ (.leaf rfl (by decide) ⟨_, Tryz.underlying50⟩ (.nil _))))))⟩
def tyL : List (Option TI) := [none,
  none,
  some ⟨.int .i64, 1, 8, [.int .i64 0], []⟩,
  some ⟨.int .i64, 1, 8, [.int .i64 0], []⟩,
  some ⟨.bool, 1, 1, [.bool false], []⟩,
  some ⟨.int .u8, 1, 1, [.int .u8 0], []⟩,
  none,
  none,
  none,
  some ⟨.str, 1, 16, [.str []], []⟩,
  none,
  none,
  some ⟨.int .u64, 1, 8, [.int .u64 0], []⟩,
  none,
  none,
  none,
  none,
  none,
  none,
  none,
  none,
  some ⟨.int .i32, 1, 4, [.int .i32 0], []⟩,
  some ⟨.slice 33, 1, 24, [.nils], []⟩,
  some ⟨.ptr, 1, 8, [.nilp], []⟩,
  none,
  some ⟨.slice 62, 1, 24, [.nils], []⟩,
  some ⟨.slice 55, 1, 24, [.nils], []⟩,
  some ⟨.int .u32, 1, 4, [.int .u32 0], []⟩,
  some ⟨.struct [(0, 27), (1, 27), (2, 27), (3, 3), (4, 3)], 5, 32, [.int .u32 0, .int .u32 0, .int .u32 0, .int .i64 0, .int .i64 0], [.int .u32, .int .u32, .int .u32, .int .i64, .int .i64]⟩,
  some ⟨.struct [(0, 27), (1, 27), (2, 27), (3, 3), (4, 3)], 5, 32, [.int .u32 0, .int .u32 0, .int .u32 0, .int .i64 0, .int .i64 0], [.int .u32, .int .u32, .int .u32, .int .i64, .int .i64]⟩,
  some ⟨.int .i64, 1, 8, [.int .i64 0], []⟩,
  none,
  none,
  some ⟨.slice 5, 1, 24, [.nils], []⟩,
  some ⟨.struct [(0, 25), (1, 29), (6, 26)], 7, 80, [.nils, .int .u32 0, .int .u32 0, .int .u32 0, .int .i64 0, .int .i64 0, .nils], []⟩,
  some ⟨.struct [(0, 25), (1, 29), (6, 26)], 7, 80, [.nils, .int .u32 0, .int .u32 0, .int .u32 0, .int .i64 0, .int .i64 0, .nils], []⟩,
  none,
  none,
  none,
  none,
  none,
  none,
  none,
  none,
  none,
  none,
  none,
  none,
  none,
  none,
  some ⟨.int .u64, 1, 8, [.int .u64 0], []⟩,
  some ⟨.struct [(0, 3), (1, 3), (2, 50), (3, 50), (4, 9)], 5, 48, [.int .i64 0, .int .i64 0, .int .u64 0, .int .u64 0, .str []], [.int .i64, .int .i64, .int .u64, .int .u64, .str]⟩,
  some ⟨.struct [(0, 3), (1, 3), (2, 50), (3, 50), (4, 9)], 5, 48, [.int .i64 0, .int .i64 0, .int .u64 0, .int .u64 0, .str []], [.int .i64, .int .i64, .int .u64, .int .u64, .str]⟩,
  some ⟨.array 2 52, 10, 96, [.int .i64 0, .int .i64 0, .int .u64 0, .int .u64 0, .str [], .int .i64 0, .int .i64 0, .int .u64 0, .int .u64 0, .str []], [.int .i64, .int .i64, .int .u64, .int .u64, .str, .int .i64, .int .i64, .int .u64, .int .u64, .str]⟩,
  some ⟨.struct [(0, 53), (10, 53), (20, 50), (21, 50)], 22, 208, [.int .i64 0, .int .i64 0, .int .u64 0, .int .u64 0, .str [], .int .i64 0, .int .i64 0, .int .u64 0, .int .u64 0, .str [], .int .i64 0, .int .i64 0, .int .u64 0, .int .u64 0, .str [], .int .i64 0, .int .i64 0, .int .u64 0, .int .u64 0, .str [], .int .u64 0, .int .u64 0], [.int .i64, .int .i64, .int .u64, .int .u64, .str, .int .i64, .int .i64, .int .u64, .int .u64, .str, .int .i64, .int .i64, .int .u64, .int .u64, .str, .int .i64, .int .i64, .int .u64, .int .u64, .str, .int .u64, .int .u64]⟩,
  some ⟨.struct [(0, 53), (10, 53), (20, 50), (21, 50)], 22, 208, [.int .i64 0, .int .i64 0, .int .u64 0, .int .u64 0, .str [], .int .i64 0, .int .i64 0, .int .u64 0, .int .u64 0, .str [], .int .i64 0, .int .i64 0, .int .u64 0, .int .u64 0, .str [], .int .i64 0, .int .i64 0, .int .u64 0, .int .u64 0, .str [], .int .u64 0, .int .u64 0], [.int .i64, .int .i64, .int .u64, .int .u64, .str, .int .i64, .int .i64, .int .u64, .int .u64, .str, .int .i64, .int .i64, .int .u64, .int .u64, .str, .int .i64, .int .i64, .int .u64, .int .u64, .str, .int .u64, .int .u64]⟩,
  some ⟨.slice 82, 1, 24, [.nils], []⟩,
  some ⟨.struct [(0, 3), (1, 3), (2, 56)], 3, 40, [.int .i64 0, .int .i64 0, .nils], []⟩,
  some ⟨.struct [(0, 3), (1, 3), (2, 56)], 3, 40, [.int .i64 0, .int .i64 0, .nils], []⟩,
  none,
  none,
  some ⟨.struct [(0, 27), (1, 58)], 4, 48, [.int .u32 0, .int .i64 0, .int .i64 0, .nils], []⟩,
  some ⟨.struct [(0, 27), (1, 58)], 4, 48, [.int .u32 0, .int .i64 0, .int .i64 0, .nils], []⟩,
  none,
  none,
  some ⟨.map 98 58, 1, 8, [.nilm], []⟩,
  some ⟨.struct [(0, 65)], 1, 8, [.nilm], []⟩,
  some ⟨.struct [(0, 65)], 1, 8, [.nilm], []⟩,
  none,
  none,
  some ⟨.ptr, 1, 8, [.nilp], []⟩,
  some ⟨.struct [(0, 23), (1, 29), (6, 26)], 7, 64, [.nilp, .int .u32 0, .int .u32 0, .int .u32 0, .int .i64 0, .int .i64 0, .nils], []⟩,
  some ⟨.struct [(0, 23), (1, 29), (6, 26)], 7, 64, [.nilp, .int .u32 0, .int .u32 0, .int .u32 0, .int .i64 0, .int .i64 0, .nils], []⟩,
  none,
  some ⟨.slice 78, 1, 24, [.nils], []⟩,
  none,
  none,
  some ⟨.struct [(0, 3), (1, 33)], 2, 32, [.int .i64 0, .nils], []⟩,
  some ⟨.struct [(0, 3), (1, 33)], 2, 32, [.int .i64 0, .nils], []⟩,
  none,
  none,
  some ⟨.struct [(0, 3), (1, 27), (2, 3)], 3, 24, [.int .i64 0, .int .u32 0, .int .i64 0], [.int .i64, .int .u32, .int .i64]⟩,
  some ⟨.struct [(0, 3), (1, 27), (2, 3)], 3, 24, [.int .i64 0, .int .u32 0, .int .i64 0], [.int .i64, .int .u32, .int .i64]⟩,
  none,
  some ⟨.slice 58, 1, 24, [.nils], []⟩,
  none,
  none,
  some ⟨.slice 3, 1, 24, [.nils], []⟩,
  some ⟨.struct [(0, 33)], 1, 24, [.nils], []⟩,
  some ⟨.struct [(0, 33)], 1, 24, [.nils], []⟩,
  some ⟨.ptr, 1, 8, [.nilp], []⟩,
  none,
  none,
  none,
  none,
  some ⟨.slice 98, 1, 24, [.nils], []⟩,
  none,
  some ⟨.struct [(0, 27), (1, 3)], 2, 16, [.int .u32 0, .int .i64 0], [.int .u32, .int .i64]⟩,
  some ⟨.struct [(0, 27), (1, 3)], 2, 16, [.int .u32 0, .int .i64 0], [.int .u32, .int .i64]⟩,
  none,
  none,
  none,
  none,
  none,
  none,
  some ⟨.ptr, 1, 8, [.nilp], []⟩,
  none,
  none,
  none,
  none,
  none,
  none,
  none,
  none,
  some ⟨.struct [(0, 33), (1, 3), (2, 30)], 3, 40, [.nils, .int .i64 0, .int .i64 0], []⟩,
  some ⟨.struct [(0, 33), (1, 3), (2, 30)], 3, 40, [.nils, .int .i64 0, .int .i64 0], []⟩,
  some ⟨.ptr, 1, 8, [.nilp], []⟩,
  none,
  none,
  none,
  none,
  none,
  none,
  none,
  none,
  none,
  none,
  none,
  none,
  none,
  none,
  none,
  none,
  none,
  none,
  none,
  none,
  none,
  none,
  some ⟨.struct [(0, 4), (1, 33), (2, 30)], 3, 40, [.bool false, .nils, .int .i64 0], []⟩,
  some ⟨.struct [(0, 4), (1, 33), (2, 30)], 3, 40, [.bool false, .nils, .int .i64 0], []⟩,
  some ⟨.int .u64, 1, 8, [.int .u64 0], []⟩,
  none,
  none,
  none,
  none,
  none,
  none,
  none,
  none,
  none,
  none,
  some ⟨.slice 9, 1, 24, [.nils], []⟩,
  none,
  none,
  none,
  none,
  none,
  none,
  none,
  none,
  none,
  none,
  none,
  some ⟨.struct [(0, 50), (1, 50)], 2, 16, [.int .u64 0, .int .u64 0], [.int .u64, .int .u64]⟩,
  some ⟨.struct [(0, 50), (1, 50)], 2, 16, [.int .u64 0, .int .u64 0], [.int .u64, .int .u64]⟩,
  none,
  none,
  none,
  none,
  none,
  some ⟨.slice 27, 1, 24, [.nils], []⟩,
  none,
  none,
  none,
  none,
  none,
  some ⟨.int .i64, 1, 8, [.int .i64 0], []⟩,
  none,
  none,
  none,
  none,
  none,
  none,
  none,
  none,
  none,
  none,
  none,
  none,
  none,
  some ⟨.int .u64, 1, 8, [.int .u64 0], []⟩,
  none,
  none,
  none,
  some ⟨.ptr, 1, 8, [.nilp], []⟩,
  none,
  none,
  none,
  none,
  none,
  none,
  none,
  none,
  none,
  none,
  some ⟨.ptr, 1, 8, [.nilp], []⟩,
  none,
  none,
  none,
  none,
  none,
  some ⟨.array 16 5, 16, 16, [.int .u8 0, .int .u8 0, .int .u8 0, .int .u8 0, .int .u8 0, .int .u8 0, .int .u8 0, .int .u8 0, .int .u8 0, .int .u8 0, .int .u8 0, .int .u8 0, .int .u8 0, .int .u8 0, .int .u8 0, .int .u8 0], []⟩,
  none,
  none,
  none,
  none,
  none,
  none,
  none,
  none,
  none,
  none,
  none,
  none,
  some ⟨.ptr, 1, 8, [.nilp], []⟩,
  none,
  none,
  none,
  none,
  none,
  none,
  none,
  none,
  none,
  none,
  none,
  none,
  none,
  none,
  none,
  none,
  none,
  none,
  none,
  none,
  none,
  some ⟨.ptr, 1, 8, [.nilp], []⟩,
  none,
  none,
  none,
  none,
  none]
def ty : TT := fun t => (tyL[t]?).join
theorem tok : TOk P ty := tok_of (.none (.none (.some t2 (.some t3 (.some t4 (.some t5 (.none (.none (.none (.some t9 (.none (.none (.some t12 (.none (.none (.none (.none (.none (.none (.none (.none (.some t21 (.some t22 (.some t23 (.none (.some t25 (.some t26 (.some t27 (.some t28 (.some t29 (.some t30 (.none (.none (.some t33 (.some t34 (.some t35 (.none (.none (.none (.none (.none (.none (.none (.none (.none (.none (.none (.none (.none (.none (.some t50 (.some t51 (.some t52 (.some t53 (.some t54 (.some t55 (.some t56 (.some t57 (.some t58 (.none (.none (.some t61 (.some t62 (.none (.none (.some t65 (.some t66 (.some t67 (.none (.none (.some t70 (.some t71 (.some t72 (.none (.some t74 (.none (.none (.some t77 (.some t78 (.none (.none (.some t81 (.some t82 (.none (.some t84 (.none (.none (.some t87 (.some t88 (.some t89 (.some t90 (.none (.none (.none (.none (.some t95 (.none (.some t97 (.some t98 (.none (.none (.none (.none (.none (.none (.some t105 (.none (.none (.none (.none (.none (.none (.none (.none (.some t114 (.some t115 (.some t116 (.none (.none (.none (.none (.none (.none (.none (.none (.none (.none (.none (.none (.none (.none (.none (.none (.none (.none (.none (.none (.none (.none (.some t139 (.some t140 (.some t141 (.none (.none (.none (.none (.none (.none (.none (.none (.none (.none (.some t152 (.none (.none (.none (.none (.none (.none (.none (.none (.none (.none (.none (.some t164 (.some t165 (.none (.none (.none (.none (.none (.some t171 (.none (.none (.none (.none (.none (.some t177 (.none (.none (.none (.none (.none (.none (.none (.none (.none (.none (.none (.none (.none (.some t191 (.none (.none (.none (.some t195 (.none (.none (.none (.none (.none (.none (.none (.none (.none (.none (.some t206 (.none (.none (.none (.none (.none (.some t212 (.none (.none (.none (.none (.none (.none (.none (.none (.none (.none (.none (.none (.some t225 (.none (.none (.none (.none (.none (.none (.none (.none (.none (.none (.none (.none (.none (.none (.none (.none (.none (.none (.none (.none (.none (.some t247 (.none (.none (.none (.none (.none (.nil _))))))))))))))))))))))))))))))))))))))))))))))))))))))))))))))))))))))))))))))))))))))))))))))))))))))))))))))))))))))))))))))))))))))))))))))))))))))))))))))))))))))))))))))))))))))))))))))))))))))))))))))))))))))))))))))))))))))))))))))))))))))))))))))
theorem mixed : P.follows .mixedOrders = true := by kernel_rfl
end Go.Proofs.YtnajpmepcffnaaaGreatDoor
