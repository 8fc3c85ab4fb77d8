/- The types of this program, as far as the proofs use them: made by program. -/
import Derived.Test.YtnajpmepcffnaaaDoorXvb
import Derived.Test.YtnajpmepcffnaaaDoorChecked
namespace Go.Proofs.YtnajpmepcffnaaaDoor
open Go.Ve
noncomputable abbrev P : Program := Tryd.prog
theorem t1 : TyOk Tryd.prog 1 ⟨.func, 1, 8, [.nilf], []⟩ := ⟨by kernel_rfl, rfl, rfl, ⟨_, _, _, Tryd.underlying1⟩, fun h => absurd rfl h⟩
theorem t2 : TyOk Tryd.prog 2 ⟨.int .i64, 1, 8, [.int .i64 0], []⟩ := ⟨by kernel_rfl, rfl, rfl, Tryd.underlying2, fun h => absurd rfl h⟩
theorem t3 : TyOk Tryd.prog 3 ⟨.int .i64, 1, 8, [.int .i64 0], []⟩ := ⟨by kernel_rfl, rfl, rfl, Tryd.underlying3, fun h => absurd rfl h⟩
theorem t4 : TyOk Tryd.prog 4 ⟨.bool, 1, 1, [.bool false], []⟩ := ⟨by kernel_rfl, rfl, rfl, Tryd.underlying4, fun h => absurd rfl h⟩
theorem t5 : TyOk Tryd.prog 5 ⟨.int .u8, 1, 1, [.int .u8 0], []⟩ := ⟨by kernel_rfl, rfl, rfl, Tryd.underlying5, fun h => absurd rfl h⟩
theorem t9 : TyOk Tryd.prog 9 ⟨.str, 1, 16, [.str []], []⟩ := ⟨by kernel_rfl, rfl, rfl, Tryd.underlying9, fun h => absurd rfl h⟩
theorem t12 : TyOk Tryd.prog 12 ⟨.int .u64, 1, 8, [.int .u64 0], []⟩ := ⟨by kernel_rfl, rfl, rfl, Tryd.underlying12, fun h => absurd rfl h⟩
theorem t21 : TyOk Tryd.prog 21 ⟨.int .i32, 1, 4, [.int .i32 0], []⟩ := ⟨by kernel_rfl, rfl, rfl, Tryd.underlying21, fun h => absurd rfl h⟩
theorem t22 : TyOk Tryd.prog 22 ⟨.slice 30, 1, 24, [.nils], []⟩ := ⟨by kernel_rfl, rfl, rfl, Tryd.underlying22, fun h => absurd rfl h⟩
theorem t23 : TyOk Tryd.prog 23 ⟨.slice 5, 1, 24, [.nils], []⟩ := ⟨by kernel_rfl, rfl, rfl, Tryd.underlying23, fun h => absurd rfl h⟩
theorem t24 : TyOk Tryd.prog 24 ⟨.ptr, 1, 8, [.nilp], []⟩ := ⟨by kernel_rfl, rfl, rfl, ⟨_, Tryd.underlying24, by kernel_rfl⟩, fun h => absurd rfl h⟩
theorem t27 : TyOk Tryd.prog 27 ⟨.func, 1, 8, [.nilf], []⟩ := ⟨by kernel_rfl, rfl, rfl, ⟨_, _, _, Tryd.underlying27⟩, fun h => absurd rfl h⟩
theorem t28 : TyOk Tryd.prog 28 ⟨.int .u32, 1, 4, [.int .u32 0], []⟩ := ⟨by kernel_rfl, rfl, rfl, Tryd.underlying28, fun h => absurd rfl h⟩
theorem t31 : TyOk Tryd.prog 31 ⟨.func, 1, 8, [.nilf], []⟩ := ⟨by kernel_rfl, rfl, rfl, ⟨_, _, _, Tryd.underlying31⟩, fun h => absurd rfl h⟩
theorem t32 : TyOk Tryd.prog 32 ⟨.func, 1, 8, [.nilf], []⟩ := ⟨by kernel_rfl, rfl, rfl, ⟨_, _, _, Tryd.underlying32⟩, fun h => absurd rfl h⟩
theorem t33 : TyOk Tryd.prog 33 ⟨.func, 1, 8, [.nilf], []⟩ := ⟨by kernel_rfl, rfl, rfl, ⟨_, _, _, Tryd.underlying33⟩, fun h => absurd rfl h⟩
theorem t34 : TyOk Tryd.prog 34 ⟨.ptr, 1, 8, [.nilp], []⟩ := ⟨by kernel_rfl, rfl, rfl, ⟨_, Tryd.underlying34, by kernel_rfl⟩, fun h => absurd rfl h⟩
theorem t35 : TyOk Tryd.prog 35 ⟨.func, 1, 8, [.nilf], []⟩ := ⟨by kernel_rfl, rfl, rfl, ⟨_, _, _, Tryd.underlying35⟩, fun h => absurd rfl h⟩
theorem t36 : TyOk Tryd.prog 36 ⟨.ptr, 1, 8, [.nilp], []⟩ := ⟨by kernel_rfl, rfl, rfl, ⟨_, Tryd.underlying36, by kernel_rfl⟩, fun h => absurd rfl h⟩
theorem t37 : TyOk Tryd.prog 37 ⟨.int .i64, 1, 8, [.int .i64 0], []⟩ := ⟨by kernel_rfl, rfl, rfl, Tryd.underlying37, fun h => absurd rfl h⟩
theorem t40 : TyOk Tryd.prog 40 ⟨.func, 1, 8, [.nilf], []⟩ := ⟨by kernel_rfl, rfl, rfl, ⟨_, _, _, Tryd.underlying40⟩, fun h => absurd rfl h⟩
theorem t41 : TyOk Tryd.prog 41 ⟨.func, 1, 8, [.nilf], []⟩ := ⟨by kernel_rfl, rfl, rfl, ⟨_, _, _, Tryd.underlying41⟩, fun h => absurd rfl h⟩
theorem t42 : TyOk Tryd.prog 42 ⟨.func, 1, 8, [.nilf], []⟩ := ⟨by kernel_rfl, rfl, rfl, ⟨_, _, _, Tryd.underlying42⟩, fun h => absurd rfl h⟩
theorem t43 : TyOk Tryd.prog 43 ⟨.func, 1, 8, [.nilf], []⟩ := ⟨by kernel_rfl, rfl, rfl, ⟨_, _, _, Tryd.underlying43⟩, fun h => absurd rfl h⟩
theorem t44 : TyOk Tryd.prog 44 ⟨.func, 1, 8, [.nilf], []⟩ := ⟨by kernel_rfl, rfl, rfl, ⟨_, _, _, Tryd.underlying44⟩, fun h => absurd rfl h⟩
theorem t45 : TyOk Tryd.prog 45 ⟨.func, 1, 8, [.nilf], []⟩ := ⟨by kernel_rfl, rfl, rfl, ⟨_, _, _, Tryd.underlying45⟩, fun h => absurd rfl h⟩
theorem t46 : TyOk Tryd.prog 46 ⟨.func, 1, 8, [.nilf], []⟩ := ⟨by kernel_rfl, rfl, rfl, ⟨_, _, _, Tryd.underlying46⟩, fun h => absurd rfl h⟩
theorem t47 : TyOk Tryd.prog 47 ⟨.func, 1, 8, [.nilf], []⟩ := ⟨by kernel_rfl, rfl, rfl, ⟨_, _, _, Tryd.underlying47⟩, fun h => absurd rfl h⟩
theorem t48 : TyOk Tryd.prog 48 ⟨.func, 1, 8, [.nilf], []⟩ := ⟨by kernel_rfl, rfl, rfl, ⟨_, _, _, Tryd.underlying48⟩, fun h => absurd rfl h⟩
theorem t49 : TyOk Tryd.prog 49 ⟨.func, 1, 8, [.nilf], []⟩ := ⟨by kernel_rfl, rfl, rfl, ⟨_, _, _, Tryd.underlying49⟩, fun h => absurd rfl h⟩
theorem t50 : TyOk Tryd.prog 50 ⟨.func, 1, 8, [.nilf], []⟩ := ⟨by kernel_rfl, rfl, rfl, ⟨_, _, _, Tryd.underlying50⟩, fun h => absurd rfl h⟩
theorem t51 : TyOk Tryd.prog 51 ⟨.func, 1, 8, [.nilf], []⟩ := ⟨by kernel_rfl, rfl, rfl, ⟨_, _, _, Tryd.underlying51⟩, fun h => absurd rfl h⟩
theorem t52 : TyOk Tryd.prog 52 ⟨.func, 1, 8, [.nilf], []⟩ := ⟨by kernel_rfl, rfl, rfl, ⟨_, _, _, Tryd.underlying52⟩, fun h => absurd rfl h⟩
theorem t53 : TyOk Tryd.prog 53 ⟨.int .u64, 1, 8, [.int .u64 0], []⟩ := ⟨by kernel_rfl, rfl, rfl, Tryd.underlying53, fun h => absurd rfl h⟩
theorem t60 : TyOk Tryd.prog 60 ⟨.func, 1, 8, [.nilf], []⟩ := ⟨by kernel_rfl, rfl, rfl, ⟨_, _, _, Tryd.underlying60⟩, fun h => absurd rfl h⟩
theorem t61 : TyOk Tryd.prog 61 ⟨.func, 1, 8, [.nilf], []⟩ := ⟨by kernel_rfl, rfl, rfl, ⟨_, _, _, Tryd.underlying61⟩, fun h => absurd rfl h⟩
theorem t62 : TyOk Tryd.prog 62 ⟨.func, 1, 8, [.nilf], []⟩ := ⟨by kernel_rfl, rfl, rfl, ⟨_, _, _, Tryd.underlying62⟩, fun h => absurd rfl h⟩
theorem t63 : TyOk Tryd.prog 63 ⟨.func, 1, 8, [.nilf], []⟩ := ⟨by kernel_rfl, rfl, rfl, ⟨_, _, _, Tryd.underlying63⟩, fun h => absurd rfl h⟩
theorem t64 : TyOk Tryd.prog 64 ⟨.func, 1, 8, [.nilf], []⟩ := ⟨by kernel_rfl, rfl, rfl, ⟨_, _, _, Tryd.underlying64⟩, fun h => absurd rfl h⟩
theorem t65 : TyOk Tryd.prog 65 ⟨.func, 1, 8, [.nilf], []⟩ := ⟨by kernel_rfl, rfl, rfl, ⟨_, _, _, Tryd.underlying65⟩, fun h => absurd rfl h⟩
theorem t67 : TyOk Tryd.prog 67 ⟨.func, 1, 8, [.nilf], []⟩ := ⟨by kernel_rfl, rfl, rfl, ⟨_, _, _, Tryd.underlying67⟩, fun h => absurd rfl h⟩
theorem t68 : TyOk Tryd.prog 68 ⟨.slice 3, 1, 24, [.nils], []⟩ := ⟨by kernel_rfl, rfl, rfl, Tryd.underlying68, fun h => absurd rfl h⟩
theorem t69 : TyOk Tryd.prog 69 ⟨.slice 28, 1, 24, [.nils], []⟩ := ⟨by kernel_rfl, rfl, rfl, Tryd.underlying69, fun h => absurd rfl h⟩
theorem t70 : TyOk Tryd.prog 70 ⟨.func, 1, 8, [.nilf], []⟩ := ⟨by kernel_rfl, rfl, rfl, ⟨_, _, _, Tryd.underlying70⟩, fun h => absurd rfl h⟩
theorem t71 : TyOk Tryd.prog 71 ⟨.func, 1, 8, [.nilf], []⟩ := ⟨by kernel_rfl, rfl, rfl, ⟨_, _, _, Tryd.underlying71⟩, fun h => absurd rfl h⟩
theorem t72 : TyOk Tryd.prog 72 ⟨.func, 1, 8, [.nilf], []⟩ := ⟨by kernel_rfl, rfl, rfl, ⟨_, _, _, Tryd.underlying72⟩, fun h => absurd rfl h⟩
theorem t75 : TyOk Tryd.prog 75 ⟨.func, 1, 8, [.nilf], []⟩ := ⟨by kernel_rfl, rfl, rfl, ⟨_, _, _, Tryd.underlying75⟩, fun h => absurd rfl h⟩
theorem t76 : TyOk Tryd.prog 76 ⟨.func, 1, 8, [.nilf], []⟩ := ⟨by kernel_rfl, rfl, rfl, ⟨_, _, _, Tryd.underlying76⟩, fun h => absurd rfl h⟩
theorem t77 : TyOk Tryd.prog 77 ⟨.func, 1, 8, [.nilf], []⟩ := ⟨by kernel_rfl, rfl, rfl, ⟨_, _, _, Tryd.underlying77⟩, fun h => absurd rfl h⟩
theorem t78 : TyOk Tryd.prog 78 ⟨.func, 1, 8, [.nilf], []⟩ := ⟨by kernel_rfl, rfl, rfl, ⟨_, _, _, Tryd.underlying78⟩, fun h => absurd rfl h⟩
theorem t79 : TyOk Tryd.prog 79 ⟨.func, 1, 8, [.nilf], []⟩ := ⟨by kernel_rfl, rfl, rfl, ⟨_, _, _, Tryd.underlying79⟩, fun h => absurd rfl h⟩
theorem t80 : TyOk Tryd.prog 80 ⟨.func, 1, 8, [.nilf], []⟩ := ⟨by kernel_rfl, rfl, rfl, ⟨_, _, _, Tryd.underlying80⟩, fun h => absurd rfl h⟩
theorem t81 : TyOk Tryd.prog 81 ⟨.func, 1, 8, [.nilf], []⟩ := ⟨by kernel_rfl, rfl, rfl, ⟨_, _, _, Tryd.underlying81⟩, fun h => absurd rfl h⟩
theorem t83 : TyOk Tryd.prog 83 ⟨.func, 1, 8, [.nilf], []⟩ := ⟨by kernel_rfl, rfl, rfl, ⟨_, _, _, Tryd.underlying83⟩, fun h => absurd rfl h⟩
theorem t84 : TyOk Tryd.prog 84 ⟨.func, 1, 8, [.nilf], []⟩ := ⟨by kernel_rfl, rfl, rfl, ⟨_, _, _, Tryd.underlying84⟩, fun h => absurd rfl h⟩
theorem t85 : TyOk Tryd.prog 85 ⟨.func, 1, 8, [.nilf], []⟩ := ⟨by kernel_rfl, rfl, rfl, ⟨_, _, _, Tryd.underlying85⟩, fun h => absurd rfl h⟩
theorem t86 : TyOk Tryd.prog 86 ⟨.func, 1, 8, [.nilf], []⟩ := ⟨by kernel_rfl, rfl, rfl, ⟨_, _, _, Tryd.underlying86⟩, fun h => absurd rfl h⟩
theorem t87 : TyOk Tryd.prog 87 ⟨.int .u64, 1, 8, [.int .u64 0], []⟩ := ⟨by kernel_rfl, rfl, rfl, Tryd.underlying87, fun h => absurd rfl h⟩
theorem t88 : TyOk Tryd.prog 88 ⟨.func, 1, 8, [.nilf], []⟩ := ⟨by kernel_rfl, rfl, rfl, ⟨_, _, _, Tryd.underlying88⟩, fun h => absurd rfl h⟩
theorem t90 : TyOk Tryd.prog 90 ⟨.func, 1, 8, [.nilf], []⟩ := ⟨by kernel_rfl, rfl, rfl, ⟨_, _, _, Tryd.underlying90⟩, fun h => absurd rfl h⟩
theorem t93 : TyOk Tryd.prog 93 ⟨.func, 1, 8, [.nilf], []⟩ := ⟨by kernel_rfl, rfl, rfl, ⟨_, _, _, Tryd.underlying93⟩, fun h => absurd rfl h⟩
theorem t94 : TyOk Tryd.prog 94 ⟨.func, 1, 8, [.nilf], []⟩ := ⟨by kernel_rfl, rfl, rfl, ⟨_, _, _, Tryd.underlying94⟩, fun h => absurd rfl h⟩
theorem t95 : TyOk Tryd.prog 95 ⟨.func, 1, 8, [.nilf], []⟩ := ⟨by kernel_rfl, rfl, rfl, ⟨_, _, _, Tryd.underlying95⟩, fun h => absurd rfl h⟩
theorem t96 : TyOk Tryd.prog 96 ⟨.func, 1, 8, [.nilf], []⟩ := ⟨by kernel_rfl, rfl, rfl, ⟨_, _, _, Tryd.underlying96⟩, fun h => absurd rfl h⟩
theorem t97 : TyOk Tryd.prog 97 ⟨.func, 1, 8, [.nilf], []⟩ := ⟨by kernel_rfl, rfl, rfl, ⟨_, _, _, Tryd.underlying97⟩, fun h => absurd rfl h⟩
theorem t98 : TyOk Tryd.prog 98 ⟨.func, 1, 8, [.nilf], []⟩ := ⟨by kernel_rfl, rfl, rfl, ⟨_, _, _, Tryd.underlying98⟩, fun h => absurd rfl h⟩
theorem t99 : TyOk Tryd.prog 99 ⟨.func, 1, 8, [.nilf], []⟩ := ⟨by kernel_rfl, rfl, rfl, ⟨_, _, _, Tryd.underlying99⟩, fun h => absurd rfl h⟩
theorem t100 : TyOk Tryd.prog 100 ⟨.func, 1, 8, [.nilf], []⟩ := ⟨by kernel_rfl, rfl, rfl, ⟨_, _, _, Tryd.underlying100⟩, fun h => absurd rfl h⟩
theorem t104 : TyOk Tryd.prog 104 ⟨.func, 1, 8, [.nilf], []⟩ := ⟨by kernel_rfl, rfl, rfl, ⟨_, _, _, Tryd.underlying104⟩, fun h => absurd rfl h⟩
theorem t105 : TyOk Tryd.prog 105 ⟨.func, 1, 8, [.nilf], []⟩ := ⟨by kernel_rfl, rfl, rfl, ⟨_, _, _, Tryd.underlying105⟩, fun h => absurd rfl h⟩
theorem t106 : TyOk Tryd.prog 106 ⟨.ptr, 1, 8, [.nilp], []⟩ := ⟨by kernel_rfl, rfl, rfl, ⟨_, Tryd.underlying106, by kernel_rfl⟩, fun h => absurd rfl h⟩
theorem t107 : TyOk Tryd.prog 107 ⟨.func, 1, 8, [.nilf], []⟩ := ⟨by kernel_rfl, rfl, rfl, ⟨_, _, _, Tryd.underlying107⟩, fun h => absurd rfl h⟩
theorem t108 : TyOk Tryd.prog 108 ⟨.slice 9, 1, 24, [.nils], []⟩ := ⟨by kernel_rfl, rfl, rfl, Tryd.underlying108, fun h => absurd rfl h⟩
theorem t110 : TyOk Tryd.prog 110 ⟨.func, 1, 8, [.nilf], []⟩ := ⟨by kernel_rfl, rfl, rfl, ⟨_, _, _, Tryd.underlying110⟩, fun h => absurd rfl h⟩
theorem t111 : TyOk Tryd.prog 111 ⟨.func, 1, 8, [.nilf], []⟩ := ⟨by kernel_rfl, rfl, rfl, ⟨_, _, _, Tryd.underlying111⟩, fun h => absurd rfl h⟩
theorem t112 : TyOk Tryd.prog 112 ⟨.func, 1, 8, [.nilf], []⟩ := ⟨by kernel_rfl, rfl, rfl, ⟨_, _, _, Tryd.underlying112⟩, fun h => absurd rfl h⟩
theorem t114 : TyOk Tryd.prog 114 ⟨.func, 1, 8, [.nilf], []⟩ := ⟨by kernel_rfl, rfl, rfl, ⟨_, _, _, Tryd.underlying114⟩, fun h => absurd rfl h⟩
theorem t115 : TyOk Tryd.prog 115 ⟨.func, 1, 8, [.nilf], []⟩ := ⟨by kernel_rfl, rfl, rfl, ⟨_, _, _, Tryd.underlying115⟩, fun h => absurd rfl h⟩
theorem t116 : TyOk Tryd.prog 116 ⟨.func, 1, 8, [.nilf], []⟩ := ⟨by kernel_rfl, rfl, rfl, ⟨_, _, _, Tryd.underlying116⟩, fun h => absurd rfl h⟩
theorem t117 : TyOk Tryd.prog 117 ⟨.func, 1, 8, [.nilf], []⟩ := ⟨by kernel_rfl, rfl, rfl, ⟨_, _, _, Tryd.underlying117⟩, fun h => absurd rfl h⟩
theorem t118 : TyOk Tryd.prog 118 ⟨.func, 1, 8, [.nilf], []⟩ := ⟨by kernel_rfl, rfl, rfl, ⟨_, _, _, Tryd.underlying118⟩, fun h => absurd rfl h⟩
theorem t119 : TyOk Tryd.prog 119 ⟨.func, 1, 8, [.nilf], []⟩ := ⟨by kernel_rfl, rfl, rfl, ⟨_, _, _, Tryd.underlying119⟩, fun h => absurd rfl h⟩
theorem t120 : TyOk Tryd.prog 120 ⟨.func, 1, 8, [.nilf], []⟩ := ⟨by kernel_rfl, rfl, rfl, ⟨_, _, _, Tryd.underlying120⟩, fun h => absurd rfl h⟩
theorem t121 : TyOk Tryd.prog 121 ⟨.func, 1, 8, [.nilf], []⟩ := ⟨by kernel_rfl, rfl, rfl, ⟨_, _, _, Tryd.underlying121⟩, fun h => absurd rfl h⟩
theorem t122 : TyOk Tryd.prog 122 ⟨.func, 1, 8, [.nilf], []⟩ := ⟨by kernel_rfl, rfl, rfl, ⟨_, _, _, Tryd.underlying122⟩, fun h => absurd rfl h⟩
theorem t123 : TyOk Tryd.prog 123 ⟨.func, 1, 8, [.nilf], []⟩ := ⟨by kernel_rfl, rfl, rfl, ⟨_, _, _, Tryd.underlying123⟩, fun h => absurd rfl h⟩
theorem t124 : TyOk Tryd.prog 124 ⟨.func, 1, 8, [.nilf], []⟩ := ⟨by kernel_rfl, rfl, rfl, ⟨_, _, _, Tryd.underlying124⟩, fun h => absurd rfl h⟩
theorem t125 : TyOk Tryd.prog 125 ⟨.func, 1, 8, [.nilf], []⟩ := ⟨by kernel_rfl, rfl, rfl, ⟨_, _, _, Tryd.underlying125⟩, fun h => absurd rfl h⟩
theorem t126 : TyOk Tryd.prog 126 ⟨.func, 1, 8, [.nilf], []⟩ := ⟨by kernel_rfl, rfl, rfl, ⟨_, _, _, Tryd.underlying126⟩, fun h => absurd rfl h⟩
theorem t127 : TyOk Tryd.prog 127 ⟨.func, 1, 8, [.nilf], []⟩ := ⟨by kernel_rfl, rfl, rfl, ⟨_, _, _, Tryd.underlying127⟩, fun h => absurd rfl h⟩
theorem t133 : TyOk Tryd.prog 133 ⟨.func, 1, 8, [.nilf], []⟩ := ⟨by kernel_rfl, rfl, rfl, ⟨_, _, _, Tryd.underlying133⟩, fun h => absurd rfl h⟩
theorem t134 : TyOk Tryd.prog 134 ⟨.func, 1, 8, [.nilf], []⟩ := ⟨by kernel_rfl, rfl, rfl, ⟨_, _, _, Tryd.underlying134⟩, fun h => absurd rfl h⟩
theorem t142 : TyOk Tryd.prog 142 ⟨.func, 1, 8, [.nilf], []⟩ := ⟨by kernel_rfl, rfl, rfl, ⟨_, _, _, Tryd.underlying142⟩, fun h => absurd rfl h⟩
theorem t143 : TyOk Tryd.prog 143 ⟨.ptr, 1, 8, [.nilp], []⟩ := ⟨by kernel_rfl, rfl, rfl, ⟨_, Tryd.underlying143, by kernel_rfl⟩, fun h => absurd rfl h⟩
theorem t25 : TyOk Tryd.prog 25 ⟨.struct [(0, 23)], 1, 24, [.nils], []⟩ := ⟨by kernel_rfl, rfl, rfl, ⟨_, Tryd.underlying25, rfl, by kernel_rfl⟩, fun h => absurd rfl h⟩
theorem t26 : TyOk Tryd.prog 26 ⟨.struct [(0, 23)], 1, 24, [.nils], []⟩ := ⟨by kernel_rfl, rfl, rfl, ⟨_, Tryd.underlying26, rfl, by kernel_rfl⟩, fun h => absurd rfl h⟩
theorem t29 : TyOk Tryd.prog 29 ⟨.struct [(0, 3), (1, 28), (2, 3)], 3, 24, [.int .i64 0, .int .u32 0, .int .i64 0], [.int .i64, .int .u32, .int .i64]⟩ := ⟨by kernel_rfl, rfl, rfl, ⟨_, Tryd.underlying29, rfl, by kernel_rfl⟩, eqT_ok (h := 2) (by decide) (by kernel_rfl) (eqT_struct (h := 1) (by decide) Tryd.underlying29 (by kernel_rfl) (.leaf rfl (by decide) ⟨_, Tryd.underlying3⟩ (.leaf rfl (by decide) ⟨_, Tryd.underlying28⟩ (.leaf rfl (by decide) ⟨_, Tryd.underlying3⟩ (.nil _)))))⟩
theorem t30 : TyOk Tryd.prog 30 ⟨.struct [(0, 3), (1, 28), (2, 3)], 3, 24, [.int .i64 0, .int .u32 0, .int .i64 0], [.int .i64, .int .u32, .int .i64]⟩ := ⟨by kernel_rfl, rfl, rfl, ⟨_, Tryd.underlying30, rfl, by kernel_rfl⟩, eqT_ok (h := 2) (by decide) (by kernel_rfl) (eqT_struct (h := 1) (by decide) Tryd.underlying30 (by kernel_rfl) (.leaf rfl (by decide) ⟨_, Tryd.underlying3⟩ (.leaf rfl (by decide) ⟨_, Tryd.underlying28⟩ (.leaf rfl (by decide) ⟨_, Tryd.underlying3⟩ (.nil _)))))⟩
theorem t38 : TyOk Tryd.prog 38 ⟨.struct [(0, 23), (1, 3), (2, 37)], 3, 40, [.nils, .int .i64 0, .int .i64 0], []⟩ := ⟨by kernel_rfl, rfl, rfl, ⟨_, Tryd.underlying38, rfl, by kernel_rfl⟩, fun h => absurd rfl h⟩
theorem t39 : TyOk Tryd.prog 39 ⟨.struct [(0, 23), (1, 3), (2, 37)], 3, 40, [.nils, .int .i64 0, .int .i64 0], []⟩ := ⟨by kernel_rfl, rfl, rfl, ⟨_, Tryd.underlying39, rfl, by kernel_rfl⟩, fun h => absurd rfl h⟩
theorem t54 : TyOk Tryd.prog 54 ⟨.struct [(0, 3), (1, 3), (2, 53), (3, 53), (4, 9)], 5, 48, [.int .i64 0, .int .i64 0, .int .u64 0, .int .u64 0, .str []], [.int .i64, .int .i64, .int .u64, .int .u64, .str]⟩ := ⟨by kernel_rfl, rfl, rfl, ⟨_, Tryd.underlying54, rfl, by kernel_rfl⟩, eqT_ok (h := 2) (by decide) (by kernel_rfl) (eqT_struct (h := 1) (by decide) Tryd.underlying54 (by kernel_rfl) (.leaf rfl (by decide) ⟨_, Tryd.underlying3⟩ (.leaf rfl (by decide) ⟨_, Tryd.underlying3⟩ (.leaf rfl (by decide) ⟨_, Tryd.underlying53⟩ (.leaf rfl (by decide) ⟨_, Tryd.underlying53⟩ (.leaf rfl (by decide) Tryd.underlying9 (.nil _)))))))⟩
theorem t55 : TyOk Tryd.prog 55 ⟨.struct [(0, 3), (1, 3), (2, 53), (3, 53), (4, 9)], 5, 48, [.int .i64 0, .int .i64 0, .int .u64 0, .int .u64 0, .str []], [.int .i64, .int .i64, .int .u64, .int .u64, .str]⟩ := ⟨by kernel_rfl, rfl, rfl, ⟨_, Tryd.underlying55, rfl, by kernel_rfl⟩, eqT_ok (h := 2) (by decide) (by kernel_rfl) (eqT_struct (h := 1) (by decide) Tryd.underlying55 (by kernel_rfl) (.leaf rfl (by decide) ⟨_, Tryd.underlying3⟩ (.leaf rfl (by decide) ⟨_, Tryd.underlying3⟩ (.leaf rfl (by decide) ⟨_, Tryd.underlying53⟩ (.leaf rfl (by decide) ⟨_, Tryd.underlying53⟩ (.leaf rfl (by decide) Tryd.underlying9 (.nil _)))))))⟩
theorem t73 : TyOk Tryd.prog 73 ⟨.struct [(0, 4), (1, 23), (2, 37)], 3, 40, [.bool false, .nils, .int .i64 0], []⟩ := ⟨by kernel_rfl, rfl, rfl, ⟨_, Tryd.underlying73, rfl, by kernel_rfl⟩, fun h => absurd rfl h⟩
theorem t74 : TyOk Tryd.prog 74 ⟨.struct [(0, 4), (1, 23), (2, 37)], 3, 40, [.bool false, .nils, .int .i64 0], []⟩ := ⟨by kernel_rfl, rfl, rfl, ⟨_, Tryd.underlying74, rfl, by kernel_rfl⟩, fun h => absurd rfl h⟩
theorem t89 : TyOk Tryd.prog 89 ⟨.array 16 5, 16, 16, [.int .u8 0, .int .u8 0, .int .u8 0, .int .u8 0, .int .u8 0, .int .u8 0, .int .u8 0, .int .u8 0, .int .u8 0, .int .u8 0, .int .u8 0, .int .u8 0, .int .u8 0, .int .u8 0, .int .u8 0, .int .u8 0], []⟩ := ⟨by kernel_rfl, rfl, rfl, ⟨Tryd.underlying89, by kernel_rfl⟩, fun h => absurd rfl h⟩
theorem t91 : TyOk Tryd.prog 91 ⟨.struct [(0, 53), (1, 53)], 2, 16, [.int .u64 0, .int .u64 0], [.int .u64, .int .u64]⟩ := ⟨by kernel_rfl, rfl, rfl, ⟨_, Tryd.underlying91, rfl, by kernel_rfl⟩, eqT_ok (h := 2) (by decide) (by kernel_rfl) (eqT_struct (h := 1) (by decide) Tryd.underlying91 (by kernel_rfl) (.leaf rfl (by decide) ⟨_, Tryd.underlying53⟩ (.leaf rfl (by decide) ⟨_, Tryd.underlying53⟩ (.nil _))))⟩
theorem t92 : TyOk Tryd.prog 92 ⟨.struct [(0, 53), (1, 53)], 2, 16, [.int .u64 0, .int .u64 0], [.int .u64, .int .u64]⟩ := ⟨by kernel_rfl, rfl, rfl, ⟨_, Tryd.underlying92, rfl, by kernel_rfl⟩, eqT_ok (h := 2) (by decide) (by kernel_rfl) (eqT_struct (h := 1) (by decide) Tryd.underlying92 (by kernel_rfl) (.leaf rfl (by decide) ⟨_, Tryd.underlying53⟩ (.leaf rfl (by decide) ⟨_, Tryd.underlying53⟩ (.nil _))))⟩
theorem t56 : TyOk Tryd.prog 56 ⟨.array 2 55, 10, 96, [.int .i64 0, .int .i64 0, .int .u64 0, .int .u64 0, .str [], .int .i64 0, .int .i64 0, .int .u64 0, .int .u64 0, .str []], [.int .i64, .int .i64, .int .u64, .int .u64, .str, .int .i64, .int .i64, .int .u64, .int .u64, .str]⟩ := ⟨by kernel_rfl, rfl, rfl, ⟨Tryd.underlying56, by kernel_rfl⟩, eqT_ok (h := 3) (by decide) (by kernel_rfl) (eqT_arrS (h := 2) (n := 2) (ks := [.int .i64, .int .i64, .int .u64, .int .u64, .str]) Tryd.underlying56 (Option.eq_some_of_isSome (by kernel_rfl)) (by kernel_rfl) (eqT_struct (h := 1) (by decide) Tryd.underlying55 (by kernel_rfl) (.leaf rfl (by decide) ⟨_, Tryd.underlying3⟩ (.leaf rfl (by decide) ⟨_, Tryd.underlying3⟩ (.leaf rfl (by decide) ⟨_, Tryd.underlying53⟩ (.leaf rfl (by decide) ⟨_, Tryd.underlying53⟩ (.leaf rfl (by decide) Tryd.underlying9 (.nil _))))))) (fun w => by simp [isAgg, run_underlying Tryd.underlying55]) (t55.sizeOf))⟩
theorem t57 : TyOk Tryd.prog 57 ⟨.struct [(0, 56), (10, 56), (20, 53), (21, 53)], 22, 208, [.int .i64 0, .int .i64 0, .int .u64 0, .int .u64 0, .str [], .int .i64 0, .int .i64 0, .int .u64 0, .int .u64 0, .str [], .int .i64 0, .int .i64 0, .int .u64 0, .int .u64 0, .str [], .int .i64 0, .int .i64 0, .int .u64 0, .int .u64 0, .str [], .int .u64 0, .int .u64 0], [.int .i64, .int .i64, .int .u64, .int .u64, .str, .int .i64, .int .i64, .int .u64, .int .u64, .str, .int .i64, .int .i64, .int .u64, .int .u64, .str, .int .i64, .int .i64, .int .u64, .int .u64, .str, .int .u64, .int .u64]⟩ := ⟨by kernel_rfl, rfl, rfl, ⟨_, Tryd.underlying57, rfl, by kernel_rfl⟩, eqT_ok (h := 4) (by decide) (by kernel_rfl) (eqT_struct (h := 3) (by decide) Tryd.underlying57 (by kernel_rfl) (.sub (ks := [.int .i64, .int .i64, .int .u64, .int .u64, .str, .int .i64, .int .i64, .int .u64, .int .u64, .str]) rfl (by decide) (EqT.up (h := 3) (by decide) (eqT_arrS (h := 2) (n := 2) (ks := [.int .i64, .int .i64, .int .u64, .int .u64, .str]) Tryd.underlying56 (Option.eq_some_of_isSome (by kernel_rfl)) (by kernel_rfl) (eqT_struct (h := 1) (by decide) Tryd.underlying55 (by kernel_rfl) (.leaf rfl (by decide) ⟨_, Tryd.underlying3⟩ (.leaf rfl (by decide) ⟨_, Tryd.underlying3⟩ (.leaf rfl (by decide) ⟨_, Tryd.underlying53⟩ (.leaf rfl (by decide) ⟨_, Tryd.underlying53⟩ (.leaf rfl (by decide) Tryd.underlying9 (.nil _))))))) (fun w => by simp [isAgg, run_underlying Tryd.underlying55]) (t55.sizeOf))) (fun w => by simp [isAgg, run_underlying Tryd.underlying56]) (t56.sizeOf) (.sub (ks := [.int .i64, .int .i64, .int .u64, .int .u64, .str, .int .i64, .int .i64, .int .u64, .int .u64, .str]) rfl (by decide) (EqT.up (h := 3) (by decide) (eqT_arrS (h := 2) (n := 2) (ks := [.int .i64, .int .i64, .int .u64, .int .u64, .str]) Tryd.underlying56 (Option.eq_some_of_isSome (by kernel_rfl)) (by kernel_rfl) (eqT_struct (h := 1) (by decide) Tryd.underlying55 (by kernel_rfl) (.leaf rfl (by decide) ⟨_, Tryd.underlying3⟩ (.leaf rfl (by decide) ⟨_, Tryd.underlying3⟩ (.leaf rfl (by decide) ⟨_, Tryd.underlying53⟩ (.leaf rfl (by decide) ⟨_, Tryd.underlying53⟩ (.leaf rfl (by decide) Tryd.underlying9 (.nil _))))))) (fun w => by simp [isAgg, run_underlying Tryd.underlying55]) (t55.sizeOf))) (fun w => by simp [isAgg, run_underlying Tryd.underlying56]) (t56.sizeOf) (.leaf rfl (by decide) ⟨_, Tryd.underlying53⟩ (.leaf rfl (by decide) ⟨_, Tryd.underlying53⟩ (.nil _))))))⟩
theorem t58 : TyOk Tryd.prog 58 ⟨.struct [(0, 56), (10, 56), (20, 53), (21, 53)], 22, 208, [.int .i64 0, .int .i64 0, .int .u64 0, .int .u64 0, .str [], .int .i64 0, .int .i64 0, .int .u64 0, .int .u64 0, .str [], .int .i64 0, .int .i64 0, .int .u64 0, .int .u64 0, .str [], .int .i64 0, .int .i64 0, .int .u64 0, .int .u64 0, .str [], .int .u64 0, .int .u64 0], [.int .i64, .int .i64, .int .u64, .int .u64, .str, .int .i64, .int .i64, .int .u64, .int .u64, .str, .int .i64, .int .i64, .int .u64, .int .u64, .str, .int .i64, .int .i64, .int .u64, .int .u64, .str, .int .u64, .int .u64]⟩ := ⟨by kernel_rfl, rfl, rfl, ⟨_, Tryd.underlying58, rfl, by kernel_rfl⟩, eqT_ok (h := 4) (by decide) (by kernel_rfl) (eqT_struct (h := 3) (by decide) Tryd.underlying58 (by kernel_rfl) (.sub (ks := [.int .i64, .int .i64, .int .u64, .int .u64, .str, .int .i64, .int .i64, .int .u64, .int .u64, .str]) rfl (by decide) (EqT.up (h := 3) (by decide) (eqT_arrS (h := 2) (n := 2) (ks := [.int .i64, .int .i64, .int .u64, .int .u64, .str]) Tryd.underlying56 (Option.eq_some_of_isSome (by kernel_rfl)) (by kernel_rfl) (eqT_struct (h := 1) (by decide) Tryd.underlying55 (by kernel_rfl) (.leaf rfl (by decide) ⟨_, Tryd.underlying3⟩ (.leaf rfl (by decide) ⟨_, Tryd.underlying3⟩ (.leaf rfl (by decide) ⟨_, Tryd.underlying53⟩ (.leaf rfl (by decide) ⟨_, Tryd.underlying53⟩ (.leaf rfl (by decide) Tryd.underlying9 (.nil _))))))) (fun w => by simp [isAgg, run_underlying Tryd.underlying55]) (t55.sizeOf))) (fun w => by simp [isAgg, run_underlying Tryd.underlying56]) (t56.sizeOf) (.sub (ks := [.int .i64, .int .i64, .int .u64, .int .u64, .str, .int .i64, .int .i64, .int .u64, .int .u64, .str]) rfl (by decide) (EqT.up (h := 3) (by decide) (eqT_arrS (h := 2) (n := 2) (ks := [.int .i64, .int .i64, .int .u64, .int .u64, .str]) Tryd.underlying56 (Option.eq_some_of_isSome (by kernel_rfl)) (by kernel_rfl) (eqT_struct (h := 1) (by decide) Tryd.underlying55 (by kernel_rfl) (.leaf rfl (by decide) ⟨_, Tryd.underlying3⟩ (.leaf rfl (by decide) ⟨_, Tryd.underlying3⟩ (.leaf rfl (by decide) ⟨_, Tryd.underlying53⟩ (.leaf rfl (by decide) ⟨_, Tryd.underlying53⟩ (.leaf rfl (by decide) Tryd.underlying9 (.nil _))))))) (fun w => by simp [isAgg, run_underlying Tryd.underlying55]) (t55.sizeOf))) (fun w => by simp [isAgg, run_underlying Tryd.underlying56]) (t56.sizeOf) (.leaf rfl (by decide) ⟨_, Tryd.underlying53⟩ (.leaf rfl (by decide) ⟨_, Tryd.underlying53⟩ (.nil _))))))⟩
def tyL : List (Option TI) := [none,
  some ⟨.func, 1, 8, [.nilf], []⟩,
  some ⟨.int .i64, 1, 8, [.int .i64 0], []⟩,
  some ⟨.int .i64, 1, 8, [.int .i64 0], []⟩,
  some ⟨.bool, 1, 1, [.bool false], []⟩,
  some ⟨.int .u8, 1, 1, [.int .u8 0], []⟩,
  none,
  none,
  none,
  some ⟨.str, 1, 16, [.str []], []⟩,
  none,
  none,
  some ⟨.int .u64, 1, 8, [.int .u64 0], []⟩,
  none,
  none,
  none,
  none,
  none,
  none,
  none,
  none,
  some ⟨.int .i32, 1, 4, [.int .i32 0], []⟩,
  some ⟨.slice 30, 1, 24, [.nils], []⟩,
  some ⟨.slice 5, 1, 24, [.nils], []⟩,
  some ⟨.ptr, 1, 8, [.nilp], []⟩,
  some ⟨.struct [(0, 23)], 1, 24, [.nils], []⟩,
  some ⟨.struct [(0, 23)], 1, 24, [.nils], []⟩,
  some ⟨.func, 1, 8, [.nilf], []⟩,
  some ⟨.int .u32, 1, 4, [.int .u32 0], []⟩,
  some ⟨.struct [(0, 3), (1, 28), (2, 3)], 3, 24, [.int .i64 0, .int .u32 0, .int .i64 0], [.int .i64, .int .u32, .int .i64]⟩,
  some ⟨.struct [(0, 3), (1, 28), (2, 3)], 3, 24, [.int .i64 0, .int .u32 0, .int .i64 0], [.int .i64, .int .u32, .int .i64]⟩,
  some ⟨.func, 1, 8, [.nilf], []⟩,
  some ⟨.func, 1, 8, [.nilf], []⟩,
  some ⟨.func, 1, 8, [.nilf], []⟩,
  some ⟨.ptr, 1, 8, [.nilp], []⟩,
  some ⟨.func, 1, 8, [.nilf], []⟩,
  some ⟨.ptr, 1, 8, [.nilp], []⟩,
  some ⟨.int .i64, 1, 8, [.int .i64 0], []⟩,
  some ⟨.struct [(0, 23), (1, 3), (2, 37)], 3, 40, [.nils, .int .i64 0, .int .i64 0], []⟩,
  some ⟨.struct [(0, 23), (1, 3), (2, 37)], 3, 40, [.nils, .int .i64 0, .int .i64 0], []⟩,
  some ⟨.func, 1, 8, [.nilf], []⟩,
  some ⟨.func, 1, 8, [.nilf], []⟩,
  some ⟨.func, 1, 8, [.nilf], []⟩,
  some ⟨.func, 1, 8, [.nilf], []⟩,
  some ⟨.func, 1, 8, [.nilf], []⟩,
  some ⟨.func, 1, 8, [.nilf], []⟩,
  some ⟨.func, 1, 8, [.nilf], []⟩,
  some ⟨.func, 1, 8, [.nilf], []⟩,
  some ⟨.func, 1, 8, [.nilf], []⟩,
  some ⟨.func, 1, 8, [.nilf], []⟩,
  some ⟨.func, 1, 8, [.nilf], []⟩,
  some ⟨.func, 1, 8, [.nilf], []⟩,
  some ⟨.func, 1, 8, [.nilf], []⟩,
  some ⟨.int .u64, 1, 8, [.int .u64 0], []⟩,
  some ⟨.struct [(0, 3), (1, 3), (2, 53), (3, 53), (4, 9)], 5, 48, [.int .i64 0, .int .i64 0, .int .u64 0, .int .u64 0, .str []], [.int .i64, .int .i64, .int .u64, .int .u64, .str]⟩,
  some ⟨.struct [(0, 3), (1, 3), (2, 53), (3, 53), (4, 9)], 5, 48, [.int .i64 0, .int .i64 0, .int .u64 0, .int .u64 0, .str []], [.int .i64, .int .i64, .int .u64, .int .u64, .str]⟩,
  some ⟨.array 2 55, 10, 96, [.int .i64 0, .int .i64 0, .int .u64 0, .int .u64 0, .str [], .int .i64 0, .int .i64 0, .int .u64 0, .int .u64 0, .str []], [.int .i64, .int .i64, .int .u64, .int .u64, .str, .int .i64, .int .i64, .int .u64, .int .u64, .str]⟩,
  some ⟨.struct [(0, 56), (10, 56), (20, 53), (21, 53)], 22, 208, [.int .i64 0, .int .i64 0, .int .u64 0, .int .u64 0, .str [], .int .i64 0, .int .i64 0, .int .u64 0, .int .u64 0, .str [], .int .i64 0, .int .i64 0, .int .u64 0, .int .u64 0, .str [], .int .i64 0, .int .i64 0, .int .u64 0, .int .u64 0, .str [], .int .u64 0, .int .u64 0], [.int .i64, .int .i64, .int .u64, .int .u64, .str, .int .i64, .int .i64, .int .u64, .int .u64, .str, .int .i64, .int .i64, .int .u64, .int .u64, .str, .int .i64, .int .i64, .int .u64, .int .u64, .str, .int .u64, .int .u64]⟩,
  some ⟨.struct [(0, 56), (10, 56), (20, 53), (21, 53)], 22, 208, [.int .i64 0, .int .i64 0, .int .u64 0, .int .u64 0, .str [], .int .i64 0, .int .i64 0, .int .u64 0, .int .u64 0, .str [], .int .i64 0, .int .i64 0, .int .u64 0, .int .u64 0, .str [], .int .i64 0, .int .i64 0, .int .u64 0, .int .u64 0, .str [], .int .u64 0, .int .u64 0], [.int .i64, .int .i64, .int .u64, .int .u64, .str, .int .i64, .int .i64, .int .u64, .int .u64, .str, .int .i64, .int .i64, .int .u64, .int .u64, .str, .int .i64, .int .i64, .int .u64, .int .u64, .str, .int .u64, .int .u64]⟩,
  none,
  some ⟨.func, 1, 8, [.nilf], []⟩,
  some ⟨.func, 1, 8, [.nilf], []⟩,
  some ⟨.func, 1, 8, [.nilf], []⟩,
  some ⟨.func, 1, 8, [.nilf], []⟩,
  some ⟨.func, 1, 8, [.nilf], []⟩,
  some ⟨.func, 1, 8, [.nilf], []⟩,
  none,
  some ⟨.func, 1, 8, [.nilf], []⟩,
  some ⟨.slice 3, 1, 24, [.nils], []⟩,
  some ⟨.slice 28, 1, 24, [.nils], []⟩,
  some ⟨.func, 1, 8, [.nilf], []⟩,
  some ⟨.func, 1, 8, [.nilf], []⟩,
  some ⟨.func, 1, 8, [.nilf], []⟩,
  some ⟨.struct [(0, 4), (1, 23), (2, 37)], 3, 40, [.bool false, .nils, .int .i64 0], []⟩,
  some ⟨.struct [(0, 4), (1, 23), (2, 37)], 3, 40, [.bool false, .nils, .int .i64 0], []⟩,
  some ⟨.func, 1, 8, [.nilf], []⟩,
  some ⟨.func, 1, 8, [.nilf], []⟩,
  some ⟨.func, 1, 8, [.nilf], []⟩,
  some ⟨.func, 1, 8, [.nilf], []⟩,
  some ⟨.func, 1, 8, [.nilf], []⟩,
  some ⟨.func, 1, 8, [.nilf], []⟩,
  some ⟨.func, 1, 8, [.nilf], []⟩,
  none,
  some ⟨.func, 1, 8, [.nilf], []⟩,
  some ⟨.func, 1, 8, [.nilf], []⟩,
  some ⟨.func, 1, 8, [.nilf], []⟩,
  some ⟨.func, 1, 8, [.nilf], []⟩,
  some ⟨.int .u64, 1, 8, [.int .u64 0], []⟩,
  some ⟨.func, 1, 8, [.nilf], []⟩,
  some ⟨.array 16 5, 16, 16, [.int .u8 0, .int .u8 0, .int .u8 0, .int .u8 0, .int .u8 0, .int .u8 0, .int .u8 0, .int .u8 0, .int .u8 0, .int .u8 0, .int .u8 0, .int .u8 0, .int .u8 0, .int .u8 0, .int .u8 0, .int .u8 0], []⟩,
  some ⟨.func, 1, 8, [.nilf], []⟩,
  some ⟨.struct [(0, 53), (1, 53)], 2, 16, [.int .u64 0, .int .u64 0], [.int .u64, .int .u64]⟩,
  some ⟨.struct [(0, 53), (1, 53)], 2, 16, [.int .u64 0, .int .u64 0], [.int .u64, .int .u64]⟩,
  some ⟨.func, 1, 8, [.nilf], []⟩,
  some ⟨.func, 1, 8, [.nilf], []⟩,
  some ⟨.func, 1, 8, [.nilf], []⟩,
  some ⟨.func, 1, 8, [.nilf], []⟩,
  some ⟨.func, 1, 8, [.nilf], []⟩,
  some ⟨.func, 1, 8, [.nilf], []⟩,
  some ⟨.func, 1, 8, [.nilf], []⟩,
  some ⟨.func, 1, 8, [.nilf], []⟩,
  none,
  none,
  none,
  some ⟨.func, 1, 8, [.nilf], []⟩,
  some ⟨.func, 1, 8, [.nilf], []⟩,
  some ⟨.ptr, 1, 8, [.nilp], []⟩,
  some ⟨.func, 1, 8, [.nilf], []⟩,
  some ⟨.slice 9, 1, 24, [.nils], []⟩,
  none,
  some ⟨.func, 1, 8, [.nilf], []⟩,
  some ⟨.func, 1, 8, [.nilf], []⟩,
  some ⟨.func, 1, 8, [.nilf], []⟩,
  none,
  some ⟨.func, 1, 8, [.nilf], []⟩,
  some ⟨.func, 1, 8, [.nilf], []⟩,
  some ⟨.func, 1, 8, [.nilf], []⟩,
  some ⟨.func, 1, 8, [.nilf], []⟩,
  some ⟨.func, 1, 8, [.nilf], []⟩,
  some ⟨.func, 1, 8, [.nilf], []⟩,
  some ⟨.func, 1, 8, [.nilf], []⟩,
  some ⟨.func, 1, 8, [.nilf], []⟩,
  some ⟨.func, 1, 8, [.nilf], []⟩,
  some ⟨.func, 1, 8, [.nilf], []⟩,
  some ⟨.func, 1, 8, [.nilf], []⟩,
  some ⟨.func, 1, 8, [.nilf], []⟩,
  some ⟨.func, 1, 8, [.nilf], []⟩,
  some ⟨.func, 1, 8, [.nilf], []⟩,
  none,
  none,
  none,
  none,
  none,
  some ⟨.func, 1, 8, [.nilf], []⟩,
  some ⟨.func, 1, 8, [.nilf], []⟩,
  none,
  none,
  none,
  none,
  none,
  none,
  none,
  some ⟨.func, 1, 8, [.nilf], []⟩,
  some ⟨.ptr, 1, 8, [.nilp], []⟩,
  none,
  none,
  none,
  none,
  none]
def ty : TT := fun t => (tyL[t]?).join
theorem tok : TOk P ty := tok_of (.none (.some t1 (.some t2 (.some t3 (.some t4 (.some t5 (.none (.none (.none (.some t9 (.none (.none (.some t12 (.none (.none (.none (.none (.none (.none (.none (.none (.some t21 (.some t22 (.some t23 (.some t24 (.some t25 (.some t26 (.some t27 (.some t28 (.some t29 (.some t30 (.some t31 (.some t32 (.some t33 (.some t34 (.some t35 (.some t36 (.some t37 (.some t38 (.some t39 (.some t40 (.some t41 (.some t42 (.some t43 (.some t44 (.some t45 (.some t46 (.some t47 (.some t48 (.some t49 (.some t50 (.some t51 (.some t52 (.some t53 (.some t54 (.some t55 (.some t56 (.some t57 (.some t58 (.none (.some t60 (.some t61 (.some t62 (.some t63 (.some t64 (.some t65 (.none (.some t67 (.some t68 (.some t69 (.some t70 (.some t71 (.some t72 (.some t73 (.some t74 (.some t75 (.some t76 (.some t77 (.some t78 (.some t79 (.some t80 (.some t81 (.none (.some t83 (.some t84 (.some t85 (.some t86 (.some t87 (.some t88 (.some t89 (.some t90 (.some t91 (.some t92 (.some t93 (.some t94 (.some t95 (.some t96 (.some t97 (.some t98 (.some t99 (.some t100 (.none (.none (.none (.some t104 (.some t105 (.some t106 (.some t107 (.some t108 (.none (.some t110 (.some t111 (.some t112 (.none (.some t114 (.some t115 (.some t116 (.some t117 (.some t118 (.some t119 (.some t120 (.some t121 (.some t122 (.some t123 (.some t124 (.some t125 (.some t126 (.some t127 (.none (.none (.none (.none (.none (.some t133 (.some t134 (.none (.none (.none (.none (.none (.none (.none (.some t142 (.some t143 (.none (.none (.none (.none (.none (.nil _))))))))))))))))))))))))))))))))))))))))))))))))))))))))))))))))))))))))))))))))))))))))))))))))))))))))))))))))))))))))))))))))))))))))))))))))))))))
theorem mixed : P.follows .mixedOrders = true := by kernel_rfl
end Go.Proofs.YtnajpmepcffnaaaDoor
