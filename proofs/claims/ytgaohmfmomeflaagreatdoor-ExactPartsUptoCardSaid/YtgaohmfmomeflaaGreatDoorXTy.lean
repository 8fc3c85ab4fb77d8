/- The types of this program, as far as the proofs use them: made by program. -/
import Derived.Test.YtgaohmfmomeflaaGreatDoorXvc
import Derived.Test.YtgaohmfmomeflaaGreatDoorChecked
namespace Go.Proofs.YtgaohmfmomeflaaGreatDoor
open Go.Ve
set_option maxRecDepth 20000
noncomputable abbrev P : Program := Tryz.prog
/-- Contracts of the library do not tell the draws. -/
instance : Dr := ⟨⟨False⟩⟩
theorem t1 : TyOk Tryz.prog 1 ⟨.func, 1, 8, [.nilf], []⟩ := ⟨by kernel_rfl, rfl, rfl, ⟨_, _, _, Tryz.underlying1⟩, fun h => absurd rfl h⟩
theorem t2 : TyOk Tryz.prog 2 ⟨.int .i64, 1, 8, [.int .i64 0], []⟩ := ⟨by kernel_rfl, rfl, rfl, Tryz.underlying2, fun h => absurd rfl h⟩
theorem t3 : TyOk Tryz.prog 3 ⟨.int .i64, 1, 8, [.int .i64 0], []⟩ := ⟨by kernel_rfl, rfl, rfl, Tryz.underlying3, fun h => absurd rfl h⟩
theorem t4 : TyOk Tryz.prog 4 ⟨.bool, 1, 1, [.bool false], []⟩ := ⟨by kernel_rfl, rfl, rfl, Tryz.underlying4, fun h => absurd rfl h⟩
theorem t5 : TyOk Tryz.prog 5 ⟨.int .u8, 1, 1, [.int .u8 0], []⟩ := ⟨by kernel_rfl, rfl, rfl, Tryz.underlying5, fun h => absurd rfl h⟩
theorem t9 : TyOk Tryz.prog 9 ⟨.str, 1, 16, [.str []], []⟩ := ⟨by kernel_rfl, rfl, rfl, Tryz.underlying9, fun h => absurd rfl h⟩
theorem t12 : TyOk Tryz.prog 12 ⟨.int .u64, 1, 8, [.int .u64 0], []⟩ := ⟨by kernel_rfl, rfl, rfl, Tryz.underlying12, fun h => absurd rfl h⟩
theorem t21 : TyOk Tryz.prog 21 ⟨.int .i32, 1, 4, [.int .i32 0], []⟩ := ⟨by kernel_rfl, rfl, rfl, Tryz.underlying21, fun h => absurd rfl h⟩
theorem t27 : TyOk Tryz.prog 27 ⟨.slice 48, 1, 24, [.nils], []⟩ := ⟨by kernel_rfl, rfl, rfl, Tryz.underlying27, fun h => absurd rfl h⟩
theorem t29 : TyOk Tryz.prog 29 ⟨.int .u64, 1, 8, [.int .u64 0], []⟩ := ⟨by kernel_rfl, rfl, rfl, Tryz.underlying29, fun h => absurd rfl h⟩
theorem t35 : TyOk Tryz.prog 35 ⟨.ptr, 1, 8, [.nilp], []⟩ := ⟨by kernel_rfl, rfl, rfl, ⟨_, Tryz.underlying35, by kernel_rfl⟩, fun h => absurd rfl h⟩
theorem t36 : TyOk Tryz.prog 36 ⟨.func, 1, 8, [.nilf], []⟩ := ⟨by kernel_rfl, rfl, rfl, ⟨_, _, _, Tryz.underlying36⟩, fun h => absurd rfl h⟩
theorem t38 : TyOk Tryz.prog 38 ⟨.func, 1, 8, [.nilf], []⟩ := ⟨by kernel_rfl, rfl, rfl, ⟨_, _, _, Tryz.underlying38⟩, fun h => absurd rfl h⟩
theorem t39 : TyOk Tryz.prog 39 ⟨.func, 1, 8, [.nilf], []⟩ := ⟨by kernel_rfl, rfl, rfl, ⟨_, _, _, Tryz.underlying39⟩, fun h => absurd rfl h⟩
theorem t40 : TyOk Tryz.prog 40 ⟨.slice 46, 1, 24, [.nils], []⟩ := ⟨by kernel_rfl, rfl, rfl, Tryz.underlying40, fun h => absurd rfl h⟩
theorem t44 : TyOk Tryz.prog 44 ⟨.func, 1, 8, [.nilf], []⟩ := ⟨by kernel_rfl, rfl, rfl, ⟨_, _, _, Tryz.underlying44⟩, fun h => absurd rfl h⟩
theorem t49 : TyOk Tryz.prog 49 ⟨.int .i64, 1, 8, [.int .i64 0], []⟩ := ⟨by kernel_rfl, rfl, rfl, Tryz.underlying49, fun h => absurd rfl h⟩
theorem t50 : TyOk Tryz.prog 50 ⟨.func, 1, 8, [.nilf], []⟩ := ⟨by kernel_rfl, rfl, rfl, ⟨_, _, _, Tryz.underlying50⟩, fun h => absurd rfl h⟩
theorem t52 : TyOk Tryz.prog 52 ⟨.func, 1, 8, [.nilf], []⟩ := ⟨by kernel_rfl, rfl, rfl, ⟨_, _, _, Tryz.underlying52⟩, fun h => absurd rfl h⟩
theorem t53 : TyOk Tryz.prog 53 ⟨.func, 1, 8, [.nilf], []⟩ := ⟨by kernel_rfl, rfl, rfl, ⟨_, _, _, Tryz.underlying53⟩, fun h => absurd rfl h⟩
theorem t54 : TyOk Tryz.prog 54 ⟨.func, 1, 8, [.nilf], []⟩ := ⟨by kernel_rfl, rfl, rfl, ⟨_, _, _, Tryz.underlying54⟩, fun h => absurd rfl h⟩
theorem t55 : TyOk Tryz.prog 55 ⟨.func, 1, 8, [.nilf], []⟩ := ⟨by kernel_rfl, rfl, rfl, ⟨_, _, _, Tryz.underlying55⟩, fun h => absurd rfl h⟩
theorem t56 : TyOk Tryz.prog 56 ⟨.func, 1, 8, [.nilf], []⟩ := ⟨by kernel_rfl, rfl, rfl, ⟨_, _, _, Tryz.underlying56⟩, fun h => absurd rfl h⟩
theorem t57 : TyOk Tryz.prog 57 ⟨.func, 1, 8, [.nilf], []⟩ := ⟨by kernel_rfl, rfl, rfl, ⟨_, _, _, Tryz.underlying57⟩, fun h => absurd rfl h⟩
theorem t59 : TyOk Tryz.prog 59 ⟨.func, 1, 8, [.nilf], []⟩ := ⟨by kernel_rfl, rfl, rfl, ⟨_, _, _, Tryz.underlying59⟩, fun h => absurd rfl h⟩
theorem t60 : TyOk Tryz.prog 60 ⟨.slice 34, 1, 24, [.nils], []⟩ := ⟨by kernel_rfl, rfl, rfl, Tryz.underlying60, fun h => absurd rfl h⟩
theorem t61 : TyOk Tryz.prog 61 ⟨.func, 1, 8, [.nilf], []⟩ := ⟨by kernel_rfl, rfl, rfl, ⟨_, _, _, Tryz.underlying61⟩, fun h => absurd rfl h⟩
theorem t63 : TyOk Tryz.prog 63 ⟨.func, 1, 8, [.nilf], []⟩ := ⟨by kernel_rfl, rfl, rfl, ⟨_, _, _, Tryz.underlying63⟩, fun h => absurd rfl h⟩
theorem t64 : TyOk Tryz.prog 64 ⟨.func, 1, 8, [.nilf], []⟩ := ⟨by kernel_rfl, rfl, rfl, ⟨_, _, _, Tryz.underlying64⟩, fun h => absurd rfl h⟩
theorem t65 : TyOk Tryz.prog 65 ⟨.func, 1, 8, [.nilf], []⟩ := ⟨by kernel_rfl, rfl, rfl, ⟨_, _, _, Tryz.underlying65⟩, fun h => absurd rfl h⟩
theorem t66 : TyOk Tryz.prog 66 ⟨.func, 1, 8, [.nilf], []⟩ := ⟨by kernel_rfl, rfl, rfl, ⟨_, _, _, Tryz.underlying66⟩, fun h => absurd rfl h⟩
theorem t67 : TyOk Tryz.prog 67 ⟨.func, 1, 8, [.nilf], []⟩ := ⟨by kernel_rfl, rfl, rfl, ⟨_, _, _, Tryz.underlying67⟩, fun h => absurd rfl h⟩
theorem t68 : TyOk Tryz.prog 68 ⟨.func, 1, 8, [.nilf], []⟩ := ⟨by kernel_rfl, rfl, rfl, ⟨_, _, _, Tryz.underlying68⟩, fun h => absurd rfl h⟩
theorem t69 : TyOk Tryz.prog 69 ⟨.func, 1, 8, [.nilf], []⟩ := ⟨by kernel_rfl, rfl, rfl, ⟨_, _, _, Tryz.underlying69⟩, fun h => absurd rfl h⟩
theorem t70 : TyOk Tryz.prog 70 ⟨.func, 1, 8, [.nilf], []⟩ := ⟨by kernel_rfl, rfl, rfl, ⟨_, _, _, Tryz.underlying70⟩, fun h => absurd rfl h⟩
theorem t71 : TyOk Tryz.prog 71 ⟨.func, 1, 8, [.nilf], []⟩ := ⟨by kernel_rfl, rfl, rfl, ⟨_, _, _, Tryz.underlying71⟩, fun h => absurd rfl h⟩
theorem t72 : TyOk Tryz.prog 72 ⟨.func, 1, 8, [.nilf], []⟩ := ⟨by kernel_rfl, rfl, rfl, ⟨_, _, _, Tryz.underlying72⟩, fun h => absurd rfl h⟩
theorem t74 : TyOk Tryz.prog 74 ⟨.func, 1, 8, [.nilf], []⟩ := ⟨by kernel_rfl, rfl, rfl, ⟨_, _, _, Tryz.underlying74⟩, fun h => absurd rfl h⟩
theorem t75 : TyOk Tryz.prog 75 ⟨.func, 1, 8, [.nilf], []⟩ := ⟨by kernel_rfl, rfl, rfl, ⟨_, _, _, Tryz.underlying75⟩, fun h => absurd rfl h⟩
theorem t76 : TyOk Tryz.prog 76 ⟨.slice 89, 1, 24, [.nils], []⟩ := ⟨by kernel_rfl, rfl, rfl, Tryz.underlying76, fun h => absurd rfl h⟩
theorem t78 : TyOk Tryz.prog 78 ⟨.func, 1, 8, [.nilf], []⟩ := ⟨by kernel_rfl, rfl, rfl, ⟨_, _, _, Tryz.underlying78⟩, fun h => absurd rfl h⟩
theorem t82 : TyOk Tryz.prog 82 ⟨.func, 1, 8, [.nilf], []⟩ := ⟨by kernel_rfl, rfl, rfl, ⟨_, _, _, Tryz.underlying82⟩, fun h => absurd rfl h⟩
theorem t83 : TyOk Tryz.prog 83 ⟨.func, 1, 8, [.nilf], []⟩ := ⟨by kernel_rfl, rfl, rfl, ⟨_, _, _, Tryz.underlying83⟩, fun h => absurd rfl h⟩
theorem t84 : TyOk Tryz.prog 84 ⟨.func, 1, 8, [.nilf], []⟩ := ⟨by kernel_rfl, rfl, rfl, ⟨_, _, _, Tryz.underlying84⟩, fun h => absurd rfl h⟩
theorem t85 : TyOk Tryz.prog 85 ⟨.func, 1, 8, [.nilf], []⟩ := ⟨by kernel_rfl, rfl, rfl, ⟨_, _, _, Tryz.underlying85⟩, fun h => absurd rfl h⟩
theorem t86 : TyOk Tryz.prog 86 ⟨.func, 1, 8, [.nilf], []⟩ := ⟨by kernel_rfl, rfl, rfl, ⟨_, _, _, Tryz.underlying86⟩, fun h => absurd rfl h⟩
theorem t87 : TyOk Tryz.prog 87 ⟨.func, 1, 8, [.nilf], []⟩ := ⟨by kernel_rfl, rfl, rfl, ⟨_, _, _, Tryz.underlying87⟩, fun h => absurd rfl h⟩
theorem t90 : TyOk Tryz.prog 90 ⟨.func, 1, 8, [.nilf], []⟩ := ⟨by kernel_rfl, rfl, rfl, ⟨_, _, _, Tryz.underlying90⟩, fun h => absurd rfl h⟩
theorem t91 : TyOk Tryz.prog 91 ⟨.func, 1, 8, [.nilf], []⟩ := ⟨by kernel_rfl, rfl, rfl, ⟨_, _, _, Tryz.underlying91⟩, fun h => absurd rfl h⟩
theorem t92 : TyOk Tryz.prog 92 ⟨.map 34 29, 1, 8, [.nilm], []⟩ := ⟨by kernel_rfl, rfl, rfl, ⟨Tryz.underlying92, by kernel_rfl, by kernel_rfl, by kernel_rfl⟩, fun h => absurd rfl h⟩
theorem t95 : TyOk Tryz.prog 95 ⟨.func, 1, 8, [.nilf], []⟩ := ⟨by kernel_rfl, rfl, rfl, ⟨_, _, _, Tryz.underlying95⟩, fun h => absurd rfl h⟩
theorem t96 : TyOk Tryz.prog 96 ⟨.func, 1, 8, [.nilf], []⟩ := ⟨by kernel_rfl, rfl, rfl, ⟨_, _, _, Tryz.underlying96⟩, fun h => absurd rfl h⟩
theorem t97 : TyOk Tryz.prog 97 ⟨.func, 1, 8, [.nilf], []⟩ := ⟨by kernel_rfl, rfl, rfl, ⟨_, _, _, Tryz.underlying97⟩, fun h => absurd rfl h⟩
theorem t98 : TyOk Tryz.prog 98 ⟨.func, 1, 8, [.nilf], []⟩ := ⟨by kernel_rfl, rfl, rfl, ⟨_, _, _, Tryz.underlying98⟩, fun h => absurd rfl h⟩
theorem t99 : TyOk Tryz.prog 99 ⟨.func, 1, 8, [.nilf], []⟩ := ⟨by kernel_rfl, rfl, rfl, ⟨_, _, _, Tryz.underlying99⟩, fun h => absurd rfl h⟩
theorem t100 : TyOk Tryz.prog 100 ⟨.slice 103, 1, 24, [.nils], []⟩ := ⟨by kernel_rfl, rfl, rfl, Tryz.underlying100, fun h => absurd rfl h⟩
theorem t101 : TyOk Tryz.prog 101 ⟨.func, 1, 8, [.nilf], []⟩ := ⟨by kernel_rfl, rfl, rfl, ⟨_, _, _, Tryz.underlying101⟩, fun h => absurd rfl h⟩
theorem t104 : TyOk Tryz.prog 104 ⟨.func, 1, 8, [.nilf], []⟩ := ⟨by kernel_rfl, rfl, rfl, ⟨_, _, _, Tryz.underlying104⟩, fun h => absurd rfl h⟩
theorem t105 : TyOk Tryz.prog 105 ⟨.func, 1, 8, [.nilf], []⟩ := ⟨by kernel_rfl, rfl, rfl, ⟨_, _, _, Tryz.underlying105⟩, fun h => absurd rfl h⟩
theorem t106 : TyOk Tryz.prog 106 ⟨.map 34 3, 1, 8, [.nilm], []⟩ := ⟨by kernel_rfl, rfl, rfl, ⟨Tryz.underlying106, by kernel_rfl, by kernel_rfl, by kernel_rfl⟩, fun h => absurd rfl h⟩
theorem t107 : TyOk Tryz.prog 107 ⟨.func, 1, 8, [.nilf], []⟩ := ⟨by kernel_rfl, rfl, rfl, ⟨_, _, _, Tryz.underlying107⟩, fun h => absurd rfl h⟩
theorem t108 : TyOk Tryz.prog 108 ⟨.func, 1, 8, [.nilf], []⟩ := ⟨by kernel_rfl, rfl, rfl, ⟨_, _, _, Tryz.underlying108⟩, fun h => absurd rfl h⟩
theorem t109 : TyOk Tryz.prog 109 ⟨.func, 1, 8, [.nilf], []⟩ := ⟨by kernel_rfl, rfl, rfl, ⟨_, _, _, Tryz.underlying109⟩, fun h => absurd rfl h⟩
theorem t110 : TyOk Tryz.prog 110 ⟨.func, 1, 8, [.nilf], []⟩ := ⟨by kernel_rfl, rfl, rfl, ⟨_, _, _, Tryz.underlying110⟩, fun h => absurd rfl h⟩
theorem t111 : TyOk Tryz.prog 111 ⟨.func, 1, 8, [.nilf], []⟩ := ⟨by kernel_rfl, rfl, rfl, ⟨_, _, _, Tryz.underlying111⟩, fun h => absurd rfl h⟩
theorem t112 : TyOk Tryz.prog 112 ⟨.func, 1, 8, [.nilf], []⟩ := ⟨by kernel_rfl, rfl, rfl, ⟨_, _, _, Tryz.underlying112⟩, fun h => absurd rfl h⟩
theorem t113 : TyOk Tryz.prog 113 ⟨.func, 1, 8, [.nilf], []⟩ := ⟨by kernel_rfl, rfl, rfl, ⟨_, _, _, Tryz.underlying113⟩, fun h => absurd rfl h⟩
theorem t114 : TyOk Tryz.prog 114 ⟨.func, 1, 8, [.nilf], []⟩ := ⟨by kernel_rfl, rfl, rfl, ⟨_, _, _, Tryz.underlying114⟩, fun h => absurd rfl h⟩
theorem t115 : TyOk Tryz.prog 115 ⟨.func, 1, 8, [.nilf], []⟩ := ⟨by kernel_rfl, rfl, rfl, ⟨_, _, _, Tryz.underlying115⟩, fun h => absurd rfl h⟩
theorem t116 : TyOk Tryz.prog 116 ⟨.func, 1, 8, [.nilf], []⟩ := ⟨by kernel_rfl, rfl, rfl, ⟨_, _, _, Tryz.underlying116⟩, fun h => absurd rfl h⟩
theorem t117 : TyOk Tryz.prog 117 ⟨.func, 1, 8, [.nilf], []⟩ := ⟨by kernel_rfl, rfl, rfl, ⟨_, _, _, Tryz.underlying117⟩, fun h => absurd rfl h⟩
theorem t118 : TyOk Tryz.prog 118 ⟨.func, 1, 8, [.nilf], []⟩ := ⟨by kernel_rfl, rfl, rfl, ⟨_, _, _, Tryz.underlying118⟩, fun h => absurd rfl h⟩
theorem t119 : TyOk Tryz.prog 119 ⟨.func, 1, 8, [.nilf], []⟩ := ⟨by kernel_rfl, rfl, rfl, ⟨_, _, _, Tryz.underlying119⟩, fun h => absurd rfl h⟩
theorem t120 : TyOk Tryz.prog 120 ⟨.func, 1, 8, [.nilf], []⟩ := ⟨by kernel_rfl, rfl, rfl, ⟨_, _, _, Tryz.underlying120⟩, fun h => absurd rfl h⟩
theorem t123 : TyOk Tryz.prog 123 ⟨.func, 1, 8, [.nilf], []⟩ := ⟨by kernel_rfl, rfl, rfl, ⟨_, _, _, Tryz.underlying123⟩, fun h => absurd rfl h⟩
theorem t124 : TyOk Tryz.prog 124 ⟨.func, 1, 8, [.nilf], []⟩ := ⟨by kernel_rfl, rfl, rfl, ⟨_, _, _, Tryz.underlying124⟩, fun h => absurd rfl h⟩
theorem t125 : TyOk Tryz.prog 125 ⟨.func, 1, 8, [.nilf], []⟩ := ⟨by kernel_rfl, rfl, rfl, ⟨_, _, _, Tryz.underlying125⟩, fun h => absurd rfl h⟩
theorem t126 : TyOk Tryz.prog 126 ⟨.func, 1, 8, [.nilf], []⟩ := ⟨by kernel_rfl, rfl, rfl, ⟨_, _, _, Tryz.underlying126⟩, fun h => absurd rfl h⟩
theorem t127 : TyOk Tryz.prog 127 ⟨.slice 3, 1, 24, [.nils], []⟩ := ⟨by kernel_rfl, rfl, rfl, Tryz.underlying127, fun h => absurd rfl h⟩
theorem t128 : TyOk Tryz.prog 128 ⟨.func, 1, 8, [.nilf], []⟩ := ⟨by kernel_rfl, rfl, rfl, ⟨_, _, _, Tryz.underlying128⟩, fun h => absurd rfl h⟩
theorem t129 : TyOk Tryz.prog 129 ⟨.int .u64, 1, 8, [.int .u64 0], []⟩ := ⟨by kernel_rfl, rfl, rfl, Tryz.underlying129, fun h => absurd rfl h⟩
theorem t130 : TyOk Tryz.prog 130 ⟨.func, 1, 8, [.nilf], []⟩ := ⟨by kernel_rfl, rfl, rfl, ⟨_, _, _, Tryz.underlying130⟩, fun h => absurd rfl h⟩
theorem t131 : TyOk Tryz.prog 131 ⟨.func, 1, 8, [.nilf], []⟩ := ⟨by kernel_rfl, rfl, rfl, ⟨_, _, _, Tryz.underlying131⟩, fun h => absurd rfl h⟩
theorem t132 : TyOk Tryz.prog 132 ⟨.func, 1, 8, [.nilf], []⟩ := ⟨by kernel_rfl, rfl, rfl, ⟨_, _, _, Tryz.underlying132⟩, fun h => absurd rfl h⟩
theorem t133 : TyOk Tryz.prog 133 ⟨.func, 1, 8, [.nilf], []⟩ := ⟨by kernel_rfl, rfl, rfl, ⟨_, _, _, Tryz.underlying133⟩, fun h => absurd rfl h⟩
theorem t134 : TyOk Tryz.prog 134 ⟨.func, 1, 8, [.nilf], []⟩ := ⟨by kernel_rfl, rfl, rfl, ⟨_, _, _, Tryz.underlying134⟩, fun h => absurd rfl h⟩
theorem t135 : TyOk Tryz.prog 135 ⟨.slice 31, 1, 24, [.nils], []⟩ := ⟨by kernel_rfl, rfl, rfl, Tryz.underlying135, fun h => absurd rfl h⟩
theorem t136 : TyOk Tryz.prog 136 ⟨.func, 1, 8, [.nilf], []⟩ := ⟨by kernel_rfl, rfl, rfl, ⟨_, _, _, Tryz.underlying136⟩, fun h => absurd rfl h⟩
theorem t138 : TyOk Tryz.prog 138 ⟨.func, 1, 8, [.nilf], []⟩ := ⟨by kernel_rfl, rfl, rfl, ⟨_, _, _, Tryz.underlying138⟩, fun h => absurd rfl h⟩
theorem t139 : TyOk Tryz.prog 139 ⟨.func, 1, 8, [.nilf], []⟩ := ⟨by kernel_rfl, rfl, rfl, ⟨_, _, _, Tryz.underlying139⟩, fun h => absurd rfl h⟩
theorem t140 : TyOk Tryz.prog 140 ⟨.func, 1, 8, [.nilf], []⟩ := ⟨by kernel_rfl, rfl, rfl, ⟨_, _, _, Tryz.underlying140⟩, fun h => absurd rfl h⟩
theorem t141 : TyOk Tryz.prog 141 ⟨.func, 1, 8, [.nilf], []⟩ := ⟨by kernel_rfl, rfl, rfl, ⟨_, _, _, Tryz.underlying141⟩, fun h => absurd rfl h⟩
theorem t142 : TyOk Tryz.prog 142 ⟨.func, 1, 8, [.nilf], []⟩ := ⟨by kernel_rfl, rfl, rfl, ⟨_, _, _, Tryz.underlying142⟩, fun h => absurd rfl h⟩
theorem t143 : TyOk Tryz.prog 143 ⟨.func, 1, 8, [.nilf], []⟩ := ⟨by kernel_rfl, rfl, rfl, ⟨_, _, _, Tryz.underlying143⟩, fun h => absurd rfl h⟩
theorem t144 : TyOk Tryz.prog 144 ⟨.func, 1, 8, [.nilf], []⟩ := ⟨by kernel_rfl, rfl, rfl, ⟨_, _, _, Tryz.underlying144⟩, fun h => absurd rfl h⟩
theorem t145 : TyOk Tryz.prog 145 ⟨.func, 1, 8, [.nilf], []⟩ := ⟨by kernel_rfl, rfl, rfl, ⟨_, _, _, Tryz.underlying145⟩, fun h => absurd rfl h⟩
theorem t146 : TyOk Tryz.prog 146 ⟨.func, 1, 8, [.nilf], []⟩ := ⟨by kernel_rfl, rfl, rfl, ⟨_, _, _, Tryz.underlying146⟩, fun h => absurd rfl h⟩
theorem t147 : TyOk Tryz.prog 147 ⟨.func, 1, 8, [.nilf], []⟩ := ⟨by kernel_rfl, rfl, rfl, ⟨_, _, _, Tryz.underlying147⟩, fun h => absurd rfl h⟩
theorem t148 : TyOk Tryz.prog 148 ⟨.func, 1, 8, [.nilf], []⟩ := ⟨by kernel_rfl, rfl, rfl, ⟨_, _, _, Tryz.underlying148⟩, fun h => absurd rfl h⟩
theorem t149 : TyOk Tryz.prog 149 ⟨.func, 1, 8, [.nilf], []⟩ := ⟨by kernel_rfl, rfl, rfl, ⟨_, _, _, Tryz.underlying149⟩, fun h => absurd rfl h⟩
theorem t150 : TyOk Tryz.prog 150 ⟨.func, 1, 8, [.nilf], []⟩ := ⟨by kernel_rfl, rfl, rfl, ⟨_, _, _, Tryz.underlying150⟩, fun h => absurd rfl h⟩
theorem t151 : TyOk Tryz.prog 151 ⟨.func, 1, 8, [.nilf], []⟩ := ⟨by kernel_rfl, rfl, rfl, ⟨_, _, _, Tryz.underlying151⟩, fun h => absurd rfl h⟩
theorem t154 : TyOk Tryz.prog 154 ⟨.func, 1, 8, [.nilf], []⟩ := ⟨by kernel_rfl, rfl, rfl, ⟨_, _, _, Tryz.underlying154⟩, fun h => absurd rfl h⟩
theorem t155 : TyOk Tryz.prog 155 ⟨.func, 1, 8, [.nilf], []⟩ := ⟨by kernel_rfl, rfl, rfl, ⟨_, _, _, Tryz.underlying155⟩, fun h => absurd rfl h⟩
theorem t156 : TyOk Tryz.prog 156 ⟨.func, 1, 8, [.nilf], []⟩ := ⟨by kernel_rfl, rfl, rfl, ⟨_, _, _, Tryz.underlying156⟩, fun h => absurd rfl h⟩
theorem t157 : TyOk Tryz.prog 157 ⟨.slice 28, 1, 24, [.nils], []⟩ := ⟨by kernel_rfl, rfl, rfl, Tryz.underlying157, fun h => absurd rfl h⟩
theorem t158 : TyOk Tryz.prog 158 ⟨.func, 1, 8, [.nilf], []⟩ := ⟨by kernel_rfl, rfl, rfl, ⟨_, _, _, Tryz.underlying158⟩, fun h => absurd rfl h⟩
theorem t159 : TyOk Tryz.prog 159 ⟨.func, 1, 8, [.nilf], []⟩ := ⟨by kernel_rfl, rfl, rfl, ⟨_, _, _, Tryz.underlying159⟩, fun h => absurd rfl h⟩
theorem t160 : TyOk Tryz.prog 160 ⟨.func, 1, 8, [.nilf], []⟩ := ⟨by kernel_rfl, rfl, rfl, ⟨_, _, _, Tryz.underlying160⟩, fun h => absurd rfl h⟩
theorem t162 : TyOk Tryz.prog 162 ⟨.func, 1, 8, [.nilf], []⟩ := ⟨by kernel_rfl, rfl, rfl, ⟨_, _, _, Tryz.underlying162⟩, fun h => absurd rfl h⟩
theorem t163 : TyOk Tryz.prog 163 ⟨.func, 1, 8, [.nilf], []⟩ := ⟨by kernel_rfl, rfl, rfl, ⟨_, _, _, Tryz.underlying163⟩, fun h => absurd rfl h⟩
theorem t164 : TyOk Tryz.prog 164 ⟨.func, 1, 8, [.nilf], []⟩ := ⟨by kernel_rfl, rfl, rfl, ⟨_, _, _, Tryz.underlying164⟩, fun h => absurd rfl h⟩
theorem t165 : TyOk Tryz.prog 165 ⟨.func, 1, 8, [.nilf], []⟩ := ⟨by kernel_rfl, rfl, rfl, ⟨_, _, _, Tryz.underlying165⟩, fun h => absurd rfl h⟩
theorem t166 : TyOk Tryz.prog 166 ⟨.func, 1, 8, [.nilf], []⟩ := ⟨by kernel_rfl, rfl, rfl, ⟨_, _, _, Tryz.underlying166⟩, fun h => absurd rfl h⟩
theorem t167 : TyOk Tryz.prog 167 ⟨.func, 1, 8, [.nilf], []⟩ := ⟨by kernel_rfl, rfl, rfl, ⟨_, _, _, Tryz.underlying167⟩, fun h => absurd rfl h⟩
theorem t168 : TyOk Tryz.prog 168 ⟨.func, 1, 8, [.nilf], []⟩ := ⟨by kernel_rfl, rfl, rfl, ⟨_, _, _, Tryz.underlying168⟩, fun h => absurd rfl h⟩
theorem t169 : TyOk Tryz.prog 169 ⟨.func, 1, 8, [.nilf], []⟩ := ⟨by kernel_rfl, rfl, rfl, ⟨_, _, _, Tryz.underlying169⟩, fun h => absurd rfl h⟩
theorem t170 : TyOk Tryz.prog 170 ⟨.func, 1, 8, [.nilf], []⟩ := ⟨by kernel_rfl, rfl, rfl, ⟨_, _, _, Tryz.underlying170⟩, fun h => absurd rfl h⟩
theorem t171 : TyOk Tryz.prog 171 ⟨.func, 1, 8, [.nilf], []⟩ := ⟨by kernel_rfl, rfl, rfl, ⟨_, _, _, Tryz.underlying171⟩, fun h => absurd rfl h⟩
theorem t172 : TyOk Tryz.prog 172 ⟨.func, 1, 8, [.nilf], []⟩ := ⟨by kernel_rfl, rfl, rfl, ⟨_, _, _, Tryz.underlying172⟩, fun h => absurd rfl h⟩
theorem t173 : TyOk Tryz.prog 173 ⟨.func, 1, 8, [.nilf], []⟩ := ⟨by kernel_rfl, rfl, rfl, ⟨_, _, _, Tryz.underlying173⟩, fun h => absurd rfl h⟩
theorem t175 : TyOk Tryz.prog 175 ⟨.func, 1, 8, [.nilf], []⟩ := ⟨by kernel_rfl, rfl, rfl, ⟨_, _, _, Tryz.underlying175⟩, fun h => absurd rfl h⟩
theorem t176 : TyOk Tryz.prog 176 ⟨.func, 1, 8, [.nilf], []⟩ := ⟨by kernel_rfl, rfl, rfl, ⟨_, _, _, Tryz.underlying176⟩, fun h => absurd rfl h⟩
theorem t177 : TyOk Tryz.prog 177 ⟨.func, 1, 8, [.nilf], []⟩ := ⟨by kernel_rfl, rfl, rfl, ⟨_, _, _, Tryz.underlying177⟩, fun h => absurd rfl h⟩
theorem t178 : TyOk Tryz.prog 178 ⟨.func, 1, 8, [.nilf], []⟩ := ⟨by kernel_rfl, rfl, rfl, ⟨_, _, _, Tryz.underlying178⟩, fun h => absurd rfl h⟩
theorem t180 : TyOk Tryz.prog 180 ⟨.func, 1, 8, [.nilf], []⟩ := ⟨by kernel_rfl, rfl, rfl, ⟨_, _, _, Tryz.underlying180⟩, fun h => absurd rfl h⟩
theorem t181 : TyOk Tryz.prog 181 ⟨.slice 9, 1, 24, [.nils], []⟩ := ⟨by kernel_rfl, rfl, rfl, Tryz.underlying181, fun h => absurd rfl h⟩
theorem t183 : TyOk Tryz.prog 183 ⟨.func, 1, 8, [.nilf], []⟩ := ⟨by kernel_rfl, rfl, rfl, ⟨_, _, _, Tryz.underlying183⟩, fun h => absurd rfl h⟩
theorem t184 : TyOk Tryz.prog 184 ⟨.func, 1, 8, [.nilf], []⟩ := ⟨by kernel_rfl, rfl, rfl, ⟨_, _, _, Tryz.underlying184⟩, fun h => absurd rfl h⟩
theorem t185 : TyOk Tryz.prog 185 ⟨.func, 1, 8, [.nilf], []⟩ := ⟨by kernel_rfl, rfl, rfl, ⟨_, _, _, Tryz.underlying185⟩, fun h => absurd rfl h⟩
theorem t186 : TyOk Tryz.prog 186 ⟨.func, 1, 8, [.nilf], []⟩ := ⟨by kernel_rfl, rfl, rfl, ⟨_, _, _, Tryz.underlying186⟩, fun h => absurd rfl h⟩
theorem t187 : TyOk Tryz.prog 187 ⟨.int .i64, 1, 8, [.int .i64 0], []⟩ := ⟨by kernel_rfl, rfl, rfl, Tryz.underlying187, fun h => absurd rfl h⟩
theorem t189 : TyOk Tryz.prog 189 ⟨.func, 1, 8, [.nilf], []⟩ := ⟨by kernel_rfl, rfl, rfl, ⟨_, _, _, Tryz.underlying189⟩, fun h => absurd rfl h⟩
theorem t190 : TyOk Tryz.prog 190 ⟨.func, 1, 8, [.nilf], []⟩ := ⟨by kernel_rfl, rfl, rfl, ⟨_, _, _, Tryz.underlying190⟩, fun h => absurd rfl h⟩
theorem t191 : TyOk Tryz.prog 191 ⟨.func, 1, 8, [.nilf], []⟩ := ⟨by kernel_rfl, rfl, rfl, ⟨_, _, _, Tryz.underlying191⟩, fun h => absurd rfl h⟩
theorem t193 : TyOk Tryz.prog 193 ⟨.func, 1, 8, [.nilf], []⟩ := ⟨by kernel_rfl, rfl, rfl, ⟨_, _, _, Tryz.underlying193⟩, fun h => absurd rfl h⟩
theorem t194 : TyOk Tryz.prog 194 ⟨.func, 1, 8, [.nilf], []⟩ := ⟨by kernel_rfl, rfl, rfl, ⟨_, _, _, Tryz.underlying194⟩, fun h => absurd rfl h⟩
theorem t195 : TyOk Tryz.prog 195 ⟨.int .u32, 1, 4, [.int .u32 0], []⟩ := ⟨by kernel_rfl, rfl, rfl, Tryz.underlying195, fun h => absurd rfl h⟩
theorem t196 : TyOk Tryz.prog 196 ⟨.func, 1, 8, [.nilf], []⟩ := ⟨by kernel_rfl, rfl, rfl, ⟨_, _, _, Tryz.underlying196⟩, fun h => absurd rfl h⟩
theorem t197 : TyOk Tryz.prog 197 ⟨.func, 1, 8, [.nilf], []⟩ := ⟨by kernel_rfl, rfl, rfl, ⟨_, _, _, Tryz.underlying197⟩, fun h => absurd rfl h⟩
theorem t198 : TyOk Tryz.prog 198 ⟨.func, 1, 8, [.nilf], []⟩ := ⟨by kernel_rfl, rfl, rfl, ⟨_, _, _, Tryz.underlying198⟩, fun h => absurd rfl h⟩
theorem t199 : TyOk Tryz.prog 199 ⟨.func, 1, 8, [.nilf], []⟩ := ⟨by kernel_rfl, rfl, rfl, ⟨_, _, _, Tryz.underlying199⟩, fun h => absurd rfl h⟩
theorem t200 : TyOk Tryz.prog 200 ⟨.func, 1, 8, [.nilf], []⟩ := ⟨by kernel_rfl, rfl, rfl, ⟨_, _, _, Tryz.underlying200⟩, fun h => absurd rfl h⟩
theorem t201 : TyOk Tryz.prog 201 ⟨.func, 1, 8, [.nilf], []⟩ := ⟨by kernel_rfl, rfl, rfl, ⟨_, _, _, Tryz.underlying201⟩, fun h => absurd rfl h⟩
theorem t202 : TyOk Tryz.prog 202 ⟨.func, 1, 8, [.nilf], []⟩ := ⟨by kernel_rfl, rfl, rfl, ⟨_, _, _, Tryz.underlying202⟩, fun h => absurd rfl h⟩
theorem t203 : TyOk Tryz.prog 203 ⟨.int .u64, 1, 8, [.int .u64 0], []⟩ := ⟨by kernel_rfl, rfl, rfl, Tryz.underlying203, fun h => absurd rfl h⟩
theorem t204 : TyOk Tryz.prog 204 ⟨.func, 1, 8, [.nilf], []⟩ := ⟨by kernel_rfl, rfl, rfl, ⟨_, _, _, Tryz.underlying204⟩, fun h => absurd rfl h⟩
theorem t205 : TyOk Tryz.prog 205 ⟨.func, 1, 8, [.nilf], []⟩ := ⟨by kernel_rfl, rfl, rfl, ⟨_, _, _, Tryz.underlying205⟩, fun h => absurd rfl h⟩
theorem t206 : TyOk Tryz.prog 206 ⟨.ptr, 1, 8, [.nilp], []⟩ := ⟨by kernel_rfl, rfl, rfl, ⟨_, Tryz.underlying206, by kernel_rfl⟩, fun h => absurd rfl h⟩
theorem t207 : TyOk Tryz.prog 207 ⟨.func, 1, 8, [.nilf], []⟩ := ⟨by kernel_rfl, rfl, rfl, ⟨_, _, _, Tryz.underlying207⟩, fun h => absurd rfl h⟩
theorem t208 : TyOk Tryz.prog 208 ⟨.func, 1, 8, [.nilf], []⟩ := ⟨by kernel_rfl, rfl, rfl, ⟨_, _, _, Tryz.underlying208⟩, fun h => absurd rfl h⟩
theorem t209 : TyOk Tryz.prog 209 ⟨.func, 1, 8, [.nilf], []⟩ := ⟨by kernel_rfl, rfl, rfl, ⟨_, _, _, Tryz.underlying209⟩, fun h => absurd rfl h⟩
theorem t210 : TyOk Tryz.prog 210 ⟨.func, 1, 8, [.nilf], []⟩ := ⟨by kernel_rfl, rfl, rfl, ⟨_, _, _, Tryz.underlying210⟩, fun h => absurd rfl h⟩
theorem t211 : TyOk Tryz.prog 211 ⟨.func, 1, 8, [.nilf], []⟩ := ⟨by kernel_rfl, rfl, rfl, ⟨_, _, _, Tryz.underlying211⟩, fun h => absurd rfl h⟩
theorem t212 : TyOk Tryz.prog 212 ⟨.func, 1, 8, [.nilf], []⟩ := ⟨by kernel_rfl, rfl, rfl, ⟨_, _, _, Tryz.underlying212⟩, fun h => absurd rfl h⟩
theorem t213 : TyOk Tryz.prog 213 ⟨.func, 1, 8, [.nilf], []⟩ := ⟨by kernel_rfl, rfl, rfl, ⟨_, _, _, Tryz.underlying213⟩, fun h => absurd rfl h⟩
theorem t214 : TyOk Tryz.prog 214 ⟨.ptr, 1, 8, [.nilp], []⟩ := ⟨by kernel_rfl, rfl, rfl, ⟨_, Tryz.underlying214, by kernel_rfl⟩, fun h => absurd rfl h⟩
theorem t215 : TyOk Tryz.prog 215 ⟨.func, 1, 8, [.nilf], []⟩ := ⟨by kernel_rfl, rfl, rfl, ⟨_, _, _, Tryz.underlying215⟩, fun h => absurd rfl h⟩
theorem t216 : TyOk Tryz.prog 216 ⟨.func, 1, 8, [.nilf], []⟩ := ⟨by kernel_rfl, rfl, rfl, ⟨_, _, _, Tryz.underlying216⟩, fun h => absurd rfl h⟩
theorem t217 : TyOk Tryz.prog 217 ⟨.func, 1, 8, [.nilf], []⟩ := ⟨by kernel_rfl, rfl, rfl, ⟨_, _, _, Tryz.underlying217⟩, fun h => absurd rfl h⟩
theorem t218 : TyOk Tryz.prog 218 ⟨.slice 5, 1, 24, [.nils], []⟩ := ⟨by kernel_rfl, rfl, rfl, Tryz.underlying218, fun h => absurd rfl h⟩
theorem t219 : TyOk Tryz.prog 219 ⟨.func, 1, 8, [.nilf], []⟩ := ⟨by kernel_rfl, rfl, rfl, ⟨_, _, _, Tryz.underlying219⟩, fun h => absurd rfl h⟩
theorem t220 : TyOk Tryz.prog 220 ⟨.func, 1, 8, [.nilf], []⟩ := ⟨by kernel_rfl, rfl, rfl, ⟨_, _, _, Tryz.underlying220⟩, fun h => absurd rfl h⟩
theorem t221 : TyOk Tryz.prog 221 ⟨.func, 1, 8, [.nilf], []⟩ := ⟨by kernel_rfl, rfl, rfl, ⟨_, _, _, Tryz.underlying221⟩, fun h => absurd rfl h⟩
theorem t222 : TyOk Tryz.prog 222 ⟨.ptr, 1, 8, [.nilp], []⟩ := ⟨by kernel_rfl, rfl, rfl, ⟨_, Tryz.underlying222, by kernel_rfl⟩, fun h => absurd rfl h⟩
theorem t225 : TyOk Tryz.prog 225 ⟨.func, 1, 8, [.nilf], []⟩ := ⟨by kernel_rfl, rfl, rfl, ⟨_, _, _, Tryz.underlying225⟩, fun h => absurd rfl h⟩
theorem t229 : TyOk Tryz.prog 229 ⟨.func, 1, 8, [.nilf], []⟩ := ⟨by kernel_rfl, rfl, rfl, ⟨_, _, _, Tryz.underlying229⟩, fun h => absurd rfl h⟩
theorem t230 : TyOk Tryz.prog 230 ⟨.func, 1, 8, [.nilf], []⟩ := ⟨by kernel_rfl, rfl, rfl, ⟨_, _, _, Tryz.underlying230⟩, fun h => absurd rfl h⟩
theorem t231 : TyOk Tryz.prog 231 ⟨.func, 1, 8, [.nilf], []⟩ := ⟨by kernel_rfl, rfl, rfl, ⟨_, _, _, Tryz.underlying231⟩, fun h => absurd rfl h⟩
theorem t232 : TyOk Tryz.prog 232 ⟨.ptr, 1, 8, [.nilp], []⟩ := ⟨by kernel_rfl, rfl, rfl, ⟨_, Tryz.underlying232, by kernel_rfl⟩, fun h => absurd rfl h⟩
theorem t234 : TyOk Tryz.prog 234 ⟨.func, 1, 8, [.nilf], []⟩ := ⟨by kernel_rfl, rfl, rfl, ⟨_, _, _, Tryz.underlying234⟩, fun h => absurd rfl h⟩
theorem t235 : TyOk Tryz.prog 235 ⟨.func, 1, 8, [.nilf], []⟩ := ⟨by kernel_rfl, rfl, rfl, ⟨_, _, _, Tryz.underlying235⟩, fun h => absurd rfl h⟩
theorem t237 : TyOk Tryz.prog 237 ⟨.func, 1, 8, [.nilf], []⟩ := ⟨by kernel_rfl, rfl, rfl, ⟨_, _, _, Tryz.underlying237⟩, fun h => absurd rfl h⟩
theorem t238 : TyOk Tryz.prog 238 ⟨.func, 1, 8, [.nilf], []⟩ := ⟨by kernel_rfl, rfl, rfl, ⟨_, _, _, Tryz.underlying238⟩, fun h => absurd rfl h⟩
theorem t244 : TyOk Tryz.prog 244 ⟨.func, 1, 8, [.nilf], []⟩ := ⟨by kernel_rfl, rfl, rfl, ⟨_, _, _, Tryz.underlying244⟩, fun h => absurd rfl h⟩
theorem t250 : TyOk Tryz.prog 250 ⟨.func, 1, 8, [.nilf], []⟩ := ⟨by kernel_rfl, rfl, rfl, ⟨_, _, _, Tryz.underlying250⟩, fun h => absurd rfl h⟩
theorem t253 : TyOk Tryz.prog 253 ⟨.func, 1, 8, [.nilf], []⟩ := ⟨by kernel_rfl, rfl, rfl, ⟨_, _, _, Tryz.underlying253⟩, fun h => absurd rfl h⟩
theorem t22 : TyOk Tryz.prog 22 ⟨.struct [(0, 3), (1, 3), (2, 3)], 3, 24, [.int .i64 0, .int .i64 0, .int .i64 0], [.int .i64, .int .i64, .int .i64]⟩ := ⟨by kernel_rfl, rfl, rfl, ⟨_, Tryz.underlying22, rfl, by kernel_rfl⟩, eqT_ok (h := 2) (by decide) (by kernel_rfl) (eqT_struct (h := 1) (by decide) Tryz.underlying22 (by kernel_rfl) (.leaf rfl (by decide) ⟨_, Tryz.underlying3⟩ (.leaf rfl (by decide) ⟨_, Tryz.underlying3⟩ (.leaf rfl (by decide) ⟨_, Tryz.underlying3⟩ (.nil _)))))⟩
theorem t23 : TyOk Tryz.prog 23 ⟨.struct [(0, 3), (1, 3), (2, 3)], 3, 24, [.int .i64 0, .int .i64 0, .int .i64 0], [.int .i64, .int .i64, .int .i64]⟩ := ⟨by kernel_rfl, rfl, rfl, ⟨_, Tryz.underlying23, rfl, by kernel_rfl⟩, eqT_ok (h := 2) (by decide) (by kernel_rfl) (eqT_struct (h := 1) (by decide) Tryz.underlying23 (by kernel_rfl) (.leaf rfl (by decide) ⟨_, Tryz.underlying3⟩ (.leaf rfl (by decide) ⟨_, Tryz.underlying3⟩ (.leaf rfl (by decide) ⟨_, Tryz.underlying3⟩ (.nil _)))))⟩
theorem t28 : TyOk Tryz.prog 28 ⟨.array 2 3, 2, 16, [.int .i64 0, .int .i64 0], [.int .i64, .int .i64]⟩ := ⟨by kernel_rfl, rfl, rfl, ⟨Tryz.underlying28, by kernel_rfl⟩, eqT_ok (h := 2) (by decide) (by kernel_rfl) (eqT_arrL (h := 1) (n := 2) (k := .int .i64) (by decide) Tryz.underlying28 (Option.eq_some_of_isSome (by kernel_rfl)) (by kernel_rfl) ⟨_, Tryz.underlying3⟩)⟩
theorem t30 : TyOk Tryz.prog 30 ⟨.struct [(0, 3), (1, 3), (2, 29), (3, 29), (4, 9)], 5, 48, [.int .i64 0, .int .i64 0, .int .u64 0, .int .u64 0, .str []], [.int .i64, .int .i64, .int .u64, .int .u64, .str]⟩ := ⟨by kernel_rfl, rfl, rfl, ⟨_, Tryz.underlying30, rfl, by kernel_rfl⟩, eqT_ok (h := 2) (by decide) (by kernel_rfl) (eqT_struct (h := 1) (by decide) Tryz.underlying30 (by kernel_rfl) (.leaf rfl (by decide) ⟨_, Tryz.underlying3⟩ (.leaf rfl (by decide) ⟨_, Tryz.underlying3⟩ (.leaf rfl (by decide) ⟨_, Tryz.underlying29⟩ (.leaf rfl (by decide) ⟨_, Tryz.underlying29⟩ (.leaf rfl (by decide) Tryz.underlying9 (.nil _)))))))⟩
theorem t31 : TyOk Tryz.prog 31 ⟨.struct [(0, 3), (1, 3), (2, 29), (3, 29), (4, 9)], 5, 48, [.int .i64 0, .int .i64 0, .int .u64 0, .int .u64 0, .str []], [.int .i64, .int .i64, .int .u64, .int .u64, .str]⟩ := ⟨by kernel_rfl, rfl, rfl, ⟨_, Tryz.underlying31, rfl, by kernel_rfl⟩, eqT_ok (h := 2) (by decide) (by kernel_rfl) (eqT_struct (h := 1) (by decide) Tryz.underlying31 (by kernel_rfl) (.leaf rfl (by decide) ⟨_, Tryz.underlying3⟩ (.leaf rfl (by decide) ⟨_, Tryz.underlying3⟩ (.leaf rfl (by decide) ⟨_, Tryz.underlying29⟩ (.leaf rfl (by decide) ⟨_, Tryz.underlying29⟩ (.leaf rfl (by decide) Tryz.underlying9 (.nil _)))))))⟩
theorem t37 : TyOk Tryz.prog 37 ⟨.array 2 35, 2, 16, [.nilp, .nilp], []⟩ := ⟨by kernel_rfl, rfl, rfl, ⟨Tryz.underlying37, by kernel_rfl⟩, fun h => absurd rfl h⟩
theorem t62 : TyOk Tryz.prog 62 ⟨.array 2 29, 2, 16, [.int .u64 0, .int .u64 0], [.int .u64, .int .u64]⟩ := ⟨by kernel_rfl, rfl, rfl, ⟨Tryz.underlying62, by kernel_rfl⟩, eqT_ok (h := 2) (by decide) (by kernel_rfl) (eqT_arrL (h := 1) (n := 2) (k := .int .u64) (by decide) Tryz.underlying62 (Option.eq_some_of_isSome (by kernel_rfl)) (by kernel_rfl) ⟨_, Tryz.underlying29⟩)⟩
theorem t79 : TyOk Tryz.prog 79 ⟨.struct [(0, 4), (1, 4), (2, 4), (3, 4)], 4, 4, [.bool false, .bool false, .bool false, .bool false], [.bool, .bool, .bool, .bool]⟩ := ⟨by kernel_rfl, rfl, rfl, ⟨_, Tryz.underlying79, rfl, by kernel_rfl⟩, eqT_ok (h := 2) (by decide) (by kernel_rfl) (eqT_struct (h := 1) (by decide) Tryz.underlying79 (by kernel_rfl) (.leaf rfl (by decide) Tryz.underlying4 (.leaf rfl (by decide) Tryz.underlying4 (.leaf rfl (by decide) Tryz.underlying4 (.leaf rfl (by decide) Tryz.underlying4 (.nil _))))))⟩
theorem t80 : TyOk Tryz.prog 80 ⟨.struct [(0, 4), (1, 4), (2, 4), (3, 4)], 4, 4, [.bool false, .bool false, .bool false, .bool false], [.bool, .bool, .bool, .bool]⟩ := ⟨by kernel_rfl, rfl, rfl, ⟨_, Tryz.underlying80, rfl, by kernel_rfl⟩, eqT_ok (h := 2) (by decide) (by kernel_rfl) (eqT_struct (h := 1) (by decide) Tryz.underlying80 (by kernel_rfl) (.leaf rfl (by decide) Tryz.underlying4 (.leaf rfl (by decide) Tryz.underlying4 (.leaf rfl (by decide) Tryz.underlying4 (.leaf rfl (by decide) Tryz.underlying4 (.nil _))))))⟩
theorem t121 : TyOk Tryz.prog 121 ⟨.struct [(0, 35), (1, 3), (2, 3), (3, 3), (4, 60)], 5, 56, [.nilp, .int .i64 0, .int .i64 0, .int .i64 0, .nils], []⟩ := ⟨by kernel_rfl, rfl, rfl, ⟨_, Tryz.underlying121, rfl, by kernel_rfl⟩, fun h => absurd rfl h⟩
theorem t122 : TyOk Tryz.prog 122 ⟨.struct [(0, 35), (1, 3), (2, 3), (3, 3), (4, 60)], 5, 56, [.nilp, .int .i64 0, .int .i64 0, .int .i64 0, .nils], []⟩ := ⟨by kernel_rfl, rfl, rfl, ⟨_, Tryz.underlying122, rfl, by kernel_rfl⟩, fun h => absurd rfl h⟩
theorem t137 : TyOk Tryz.prog 137 ⟨.array 2 135, 2, 48, [.nils, .nils], []⟩ := ⟨by kernel_rfl, rfl, rfl, ⟨Tryz.underlying137, by kernel_rfl⟩, fun h => absurd rfl h⟩
theorem t152 : TyOk Tryz.prog 152 ⟨.struct [(0, 29), (1, 29)], 2, 16, [.int .u64 0, .int .u64 0], [.int .u64, .int .u64]⟩ := ⟨by kernel_rfl, rfl, rfl, ⟨_, Tryz.underlying152, rfl, by kernel_rfl⟩, eqT_ok (h := 2) (by decide) (by kernel_rfl) (eqT_struct (h := 1) (by decide) Tryz.underlying152 (by kernel_rfl) (.leaf rfl (by decide) ⟨_, Tryz.underlying29⟩ (.leaf rfl (by decide) ⟨_, Tryz.underlying29⟩ (.nil _))))⟩
theorem t153 : TyOk Tryz.prog 153 ⟨.struct [(0, 29), (1, 29)], 2, 16, [.int .u64 0, .int .u64 0], [.int .u64, .int .u64]⟩ := ⟨by kernel_rfl, rfl, rfl, ⟨_, Tryz.underlying153, rfl, by kernel_rfl⟩, eqT_ok (h := 2) (by decide) (by kernel_rfl) (eqT_struct (h := 1) (by decide) Tryz.underlying153 (by kernel_rfl) (.leaf rfl (by decide) ⟨_, Tryz.underlying29⟩ (.leaf rfl (by decide) ⟨_, Tryz.underlying29⟩ (.nil _))))⟩
theorem t223 : TyOk Tryz.prog 223 ⟨.struct [(0, 222), (1, 218)], 2, 32, [.nilp, .nils], []⟩ := ⟨by kernel_rfl, rfl, rfl, ⟨_, Tryz.underlying223, rfl, by kernel_rfl⟩, fun h => absurd rfl h⟩
theorem t224 : TyOk Tryz.prog 224 ⟨.struct [(0, 222), (1, 218)], 2, 32, [.nilp, .nils], []⟩ := ⟨by kernel_rfl, rfl, rfl, ⟨_, Tryz.underlying224, rfl, by kernel_rfl⟩, fun h => absurd rfl h⟩
theorem t24 : TyOk Tryz.prog 24 ⟨.array 2 23, 6, 48, [.int .i64 0, .int .i64 0, .int .i64 0, .int .i64 0, .int .i64 0, .int .i64 0], [.int .i64, .int .i64, .int .i64, .int .i64, .int .i64, .int .i64]⟩ := ⟨by kernel_rfl, rfl, rfl, ⟨Tryz.underlying24, by kernel_rfl⟩, eqT_ok (h := 3) (by decide) (by kernel_rfl) (eqT_arrS (h := 2) (n := 2) (ks := [.int .i64, .int .i64, .int .i64]) Tryz.underlying24 (Option.eq_some_of_isSome (by kernel_rfl)) (by kernel_rfl) (eqT_struct (h := 1) (by decide) Tryz.underlying23 (by kernel_rfl) (.leaf rfl (by decide) ⟨_, Tryz.underlying3⟩ (.leaf rfl (by decide) ⟨_, Tryz.underlying3⟩ (.leaf rfl (by decide) ⟨_, Tryz.underlying3⟩ (.nil _))))) (fun w => by simp [isAgg, run_underlying Tryz.underlying23]) (t23.sizeOf))⟩
theorem t32 : TyOk Tryz.prog 32 ⟨.array 2 31, 10, 96, [.int .i64 0, .int .i64 0, .int .u64 0, .int .u64 0, .str [], .int .i64 0, .int .i64 0, .int .u64 0, .int .u64 0, .str []], [.int .i64, .int .i64, .int .u64, .int .u64, .str, .int .i64, .int .i64, .int .u64, .int .u64, .str]⟩ := ⟨by kernel_rfl, rfl, rfl, ⟨Tryz.underlying32, by kernel_rfl⟩, eqT_ok (h := 3) (by decide) (by kernel_rfl) (eqT_arrS (h := 2) (n := 2) (ks := [.int .i64, .int .i64, .int .u64, .int .u64, .str]) Tryz.underlying32 (Option.eq_some_of_isSome (by kernel_rfl)) (by kernel_rfl) (eqT_struct (h := 1) (by decide) Tryz.underlying31 (by kernel_rfl) (.leaf rfl (by decide) ⟨_, Tryz.underlying3⟩ (.leaf rfl (by decide) ⟨_, Tryz.underlying3⟩ (.leaf rfl (by decide) ⟨_, Tryz.underlying29⟩ (.leaf rfl (by decide) ⟨_, Tryz.underlying29⟩ (.leaf rfl (by decide) Tryz.underlying9 (.nil _))))))) (fun w => by simp [isAgg, run_underlying Tryz.underlying31]) (t31.sizeOf))⟩
theorem t25 : TyOk Tryz.prog 25 ⟨.struct [(0, 3), (1, 24)], 7, 56, [.int .i64 0, .int .i64 0, .int .i64 0, .int .i64 0, .int .i64 0, .int .i64 0, .int .i64 0], [.int .i64, .int .i64, .int .i64, .int .i64, .int .i64, .int .i64, .int .i64]⟩ := ⟨by kernel_rfl, rfl, rfl, ⟨_, Tryz.underlying25, rfl, by kernel_rfl⟩, eqT_ok (h := 4) (by decide) (by kernel_rfl) (eqT_struct (h := 3) (by decide) Tryz.underlying25 (by kernel_rfl) (.leaf rfl (by decide) ⟨_, Tryz.underlying3⟩ (.sub (ks := [.int .i64, .int .i64, .int .i64, .int .i64, .int .i64, .int .i64]) rfl (by decide) (EqT.up (h := 3) (by decide) (eqT_arrS (h := 2) (n := 2) (ks := [.int .i64, .int .i64, .int .i64]) Tryz.underlying24 (Option.eq_some_of_isSome (by kernel_rfl)) (by kernel_rfl) (eqT_struct (h := 1) (by decide) Tryz.underlying23 (by kernel_rfl) (.leaf rfl (by decide) ⟨_, Tryz.underlying3⟩ (.leaf rfl (by decide) ⟨_, Tryz.underlying3⟩ (.leaf rfl (by decide) ⟨_, Tryz.underlying3⟩ (.nil _))))) (fun w => by simp [isAgg, run_underlying Tryz.underlying23]) (t23.sizeOf))) (fun w => by simp [isAgg, run_underlying Tryz.underlying24]) (t24.sizeOf) (.nil _))))⟩
theorem t26 : TyOk Tryz.prog 26 ⟨.struct [(0, 3), (1, 24)], 7, 56, [.int .i64 0, .int .i64 0, .int .i64 0, .int .i64 0, .int .i64 0, .int .i64 0, .int .i64 0], [.int .i64, .int .i64, .int .i64, .int .i64, .int .i64, .int .i64, .int .i64]⟩ := ⟨by kernel_rfl, rfl, rfl, ⟨_, Tryz.underlying26, rfl, by kernel_rfl⟩, eqT_ok (h := 4) (by decide) (by kernel_rfl) (eqT_struct (h := 3) (by decide) Tryz.underlying26 (by kernel_rfl) (.leaf rfl (by decide) ⟨_, Tryz.underlying3⟩ (.sub (ks := [.int .i64, .int .i64, .int .i64, .int .i64, .int .i64, .int .i64]) rfl (by decide) (EqT.up (h := 3) (by decide) (eqT_arrS (h := 2) (n := 2) (ks := [.int .i64, .int .i64, .int .i64]) Tryz.underlying24 (Option.eq_some_of_isSome (by kernel_rfl)) (by kernel_rfl) (eqT_struct (h := 1) (by decide) Tryz.underlying23 (by kernel_rfl) (.leaf rfl (by decide) ⟨_, Tryz.underlying3⟩ (.leaf rfl (by decide) ⟨_, Tryz.underlying3⟩ (.leaf rfl (by decide) ⟨_, Tryz.underlying3⟩ (.nil _))))) (fun w => by simp [isAgg, run_underlying Tryz.underlying23]) (t23.sizeOf))) (fun w => by simp [isAgg, run_underlying Tryz.underlying24]) (t24.sizeOf) (.nil _))))⟩
theorem t33 : TyOk Tryz.prog 33 ⟨.struct [(0, 28), (2, 32)], 12, 112, [.int .i64 0, .int .i64 0, .int .i64 0, .int .i64 0, .int .u64 0, .int .u64 0, .str [], .int .i64 0, .int .i64 0, .int .u64 0, .int .u64 0, .str []], [.int .i64, .int .i64, .int .i64, .int .i64, .int .u64, .int .u64, .str, .int .i64, .int .i64, .int .u64, .int .u64, .str]⟩ := ⟨by kernel_rfl, rfl, rfl, ⟨_, Tryz.underlying33, rfl, by kernel_rfl⟩, eqT_ok (h := 4) (by decide) (by kernel_rfl) (eqT_struct (h := 3) (by decide) Tryz.underlying33 (by kernel_rfl) (.sub (ks := [.int .i64, .int .i64]) rfl (by decide) (EqT.up (h := 2) (by decide) (eqT_arrL (h := 1) (n := 2) (k := .int .i64) (by decide) Tryz.underlying28 (Option.eq_some_of_isSome (by kernel_rfl)) (by kernel_rfl) ⟨_, Tryz.underlying3⟩)) (fun w => by simp [isAgg, run_underlying Tryz.underlying28]) (t28.sizeOf) (.sub (ks := [.int .i64, .int .i64, .int .u64, .int .u64, .str, .int .i64, .int .i64, .int .u64, .int .u64, .str]) rfl (by decide) (EqT.up (h := 3) (by decide) (eqT_arrS (h := 2) (n := 2) (ks := [.int .i64, .int .i64, .int .u64, .int .u64, .str]) Tryz.underlying32 (Option.eq_some_of_isSome (by kernel_rfl)) (by kernel_rfl) (eqT_struct (h := 1) (by decide) Tryz.underlying31 (by kernel_rfl) (.leaf rfl (by decide) ⟨_, Tryz.underlying3⟩ (.leaf rfl (by decide) ⟨_, Tryz.underlying3⟩ (.leaf rfl (by decide) ⟨_, Tryz.underlying29⟩ (.leaf rfl (by decide) ⟨_, Tryz.underlying29⟩ (.leaf rfl (by decide) Tryz.underlying9 (.nil _))))))) (fun w => by simp [isAgg, run_underlying Tryz.underlying31]) (t31.sizeOf))) (fun w => by simp [isAgg, run_underlying Tryz.underlying32]) (t32.sizeOf) (.nil _))))⟩
theorem t34 : TyOk Tryz.prog 34 ⟨.struct [(0, 28), (2, 32)], 12, 112, [.int .i64 0, .int .i64 0, .int .i64 0, .int .i64 0, .int .u64 0, .int .u64 0, .str [], .int .i64 0, .int .i64 0, .int .u64 0, .int .u64 0, .str []], [.int .i64, .int .i64, .int .i64, .int .i64, .int .u64, .int .u64, .str, .int .i64, .int .i64, .int .u64, .int .u64, .str]⟩ := ⟨by kernel_rfl, rfl, rfl, ⟨_, Tryz.underlying34, rfl, by kernel_rfl⟩, eqT_ok (h := 4) (by decide) (by kernel_rfl) (eqT_struct (h := 3) (by decide) Tryz.underlying34 (by kernel_rfl) (.sub (ks := [.int .i64, .int .i64]) rfl (by decide) (EqT.up (h := 2) (by decide) (eqT_arrL (h := 1) (n := 2) (k := .int .i64) (by decide) Tryz.underlying28 (Option.eq_some_of_isSome (by kernel_rfl)) (by kernel_rfl) ⟨_, Tryz.underlying3⟩)) (fun w => by simp [isAgg, run_underlying Tryz.underlying28]) (t28.sizeOf) (.sub (ks := [.int .i64, .int .i64, .int .u64, .int .u64, .str, .int .i64, .int .i64, .int .u64, .int .u64, .str]) rfl (by decide) (EqT.up (h := 3) (by decide) (eqT_arrS (h := 2) (n := 2) (ks := [.int .i64, .int .i64, .int .u64, .int .u64, .str]) Tryz.underlying32 (Option.eq_some_of_isSome (by kernel_rfl)) (by kernel_rfl) (eqT_struct (h := 1) (by decide) Tryz.underlying31 (by kernel_rfl) (.leaf rfl (by decide) ⟨_, Tryz.underlying3⟩ (.leaf rfl (by decide) ⟨_, Tryz.underlying3⟩ (.leaf rfl (by decide) ⟨_, Tryz.underlying29⟩ (.leaf rfl (by decide) ⟨_, Tryz.underlying29⟩ (.leaf rfl (by decide) Tryz.underlying9 (.nil _))))))) (fun w => by simp [isAgg, run_underlying Tryz.underlying31]) (t31.sizeOf))) (fun w => by simp [isAgg, run_underlying Tryz.underlying32]) (t32.sizeOf) (.nil _))))⟩
theorem t41 : TyOk Tryz.prog 41 ⟨.struct [(0, 26), (7, 40)], 8, 80, [.int .i64 0, .int .i64 0, .int .i64 0, .int .i64 0, .int .i64 0, .int .i64 0, .int .i64 0, .nils], []⟩ := ⟨by kernel_rfl, rfl, rfl, ⟨_, Tryz.underlying41, rfl, by kernel_rfl⟩, fun h => absurd rfl h⟩
theorem t42 : TyOk Tryz.prog 42 ⟨.struct [(0, 26), (7, 40)], 8, 80, [.int .i64 0, .int .i64 0, .int .i64 0, .int .i64 0, .int .i64 0, .int .i64 0, .int .i64 0, .nils], []⟩ := ⟨by kernel_rfl, rfl, rfl, ⟨_, Tryz.underlying42, rfl, by kernel_rfl⟩, fun h => absurd rfl h⟩
theorem t45 : TyOk Tryz.prog 45 ⟨.struct [(0, 34), (12, 29)], 13, 120, [.int .i64 0, .int .i64 0, .int .i64 0, .int .i64 0, .int .u64 0, .int .u64 0, .str [], .int .i64 0, .int .i64 0, .int .u64 0, .int .u64 0, .str [], .int .u64 0], [.int .i64, .int .i64, .int .i64, .int .i64, .int .u64, .int .u64, .str, .int .i64, .int .i64, .int .u64, .int .u64, .str, .int .u64]⟩ := ⟨by kernel_rfl, rfl, rfl, ⟨_, Tryz.underlying45, rfl, by kernel_rfl⟩, eqT_ok (h := 5) (by decide) (by kernel_rfl) (eqT_struct (h := 4) (by decide) Tryz.underlying45 (by kernel_rfl) (.sub (ks := [.int .i64, .int .i64, .int .i64, .int .i64, .int .u64, .int .u64, .str, .int .i64, .int .i64, .int .u64, .int .u64, .str]) rfl (by decide) (EqT.up (h := 4) (by decide) (eqT_struct (h := 3) (by decide) Tryz.underlying34 (by kernel_rfl) (.sub (ks := [.int .i64, .int .i64]) rfl (by decide) (EqT.up (h := 2) (by decide) (eqT_arrL (h := 1) (n := 2) (k := .int .i64) (by decide) Tryz.underlying28 (Option.eq_some_of_isSome (by kernel_rfl)) (by kernel_rfl) ⟨_, Tryz.underlying3⟩)) (fun w => by simp [isAgg, run_underlying Tryz.underlying28]) (t28.sizeOf) (.sub (ks := [.int .i64, .int .i64, .int .u64, .int .u64, .str, .int .i64, .int .i64, .int .u64, .int .u64, .str]) rfl (by decide) (EqT.up (h := 3) (by decide) (eqT_arrS (h := 2) (n := 2) (ks := [.int .i64, .int .i64, .int .u64, .int .u64, .str]) Tryz.underlying32 (Option.eq_some_of_isSome (by kernel_rfl)) (by kernel_rfl) (eqT_struct (h := 1) (by decide) Tryz.underlying31 (by kernel_rfl) (.leaf rfl (by decide) ⟨_, Tryz.underlying3⟩ (.leaf rfl (by decide) ⟨_, Tryz.underlying3⟩ (.leaf rfl (by decide) ⟨_, Tryz.underlying29⟩ (.leaf rfl (by decide) ⟨_, Tryz.underlying29⟩ (.leaf rfl (by decide) Tryz.underlying9 (.nil _))))))) (fun w => by simp [isAgg, run_underlying Tryz.underlying31]) (t31.sizeOf))) (fun w => by simp [isAgg, run_underlying Tryz.underlying32]) (t32.sizeOf) (.nil _))))) (fun w => by simp [isAgg, run_underlying Tryz.underlying34]) (t34.sizeOf) (.leaf rfl (by decide) ⟨_, Tryz.underlying29⟩ (.nil _))))⟩
theorem t46 : TyOk Tryz.prog 46 ⟨.struct [(0, 34), (12, 29)], 13, 120, [.int .i64 0, .int .i64 0, .int .i64 0, .int .i64 0, .int .u64 0, .int .u64 0, .str [], .int .i64 0, .int .i64 0, .int .u64 0, .int .u64 0, .str [], .int .u64 0], [.int .i64, .int .i64, .int .i64, .int .i64, .int .u64, .int .u64, .str, .int .i64, .int .i64, .int .u64, .int .u64, .str, .int .u64]⟩ := ⟨by kernel_rfl, rfl, rfl, ⟨_, Tryz.underlying46, rfl, by kernel_rfl⟩, eqT_ok (h := 5) (by decide) (by kernel_rfl) (eqT_struct (h := 4) (by decide) Tryz.underlying46 (by kernel_rfl) (.sub (ks := [.int .i64, .int .i64, .int .i64, .int .i64, .int .u64, .int .u64, .str, .int .i64, .int .i64, .int .u64, .int .u64, .str]) rfl (by decide) (EqT.up (h := 4) (by decide) (eqT_struct (h := 3) (by decide) Tryz.underlying34 (by kernel_rfl) (.sub (ks := [.int .i64, .int .i64]) rfl (by decide) (EqT.up (h := 2) (by decide) (eqT_arrL (h := 1) (n := 2) (k := .int .i64) (by decide) Tryz.underlying28 (Option.eq_some_of_isSome (by kernel_rfl)) (by kernel_rfl) ⟨_, Tryz.underlying3⟩)) (fun w => by simp [isAgg, run_underlying Tryz.underlying28]) (t28.sizeOf) (.sub (ks := [.int .i64, .int .i64, .int .u64, .int .u64, .str, .int .i64, .int .i64, .int .u64, .int .u64, .str]) rfl (by decide) (EqT.up (h := 3) (by decide) (eqT_arrS (h := 2) (n := 2) (ks := [.int .i64, .int .i64, .int .u64, .int .u64, .str]) Tryz.underlying32 (Option.eq_some_of_isSome (by kernel_rfl)) (by kernel_rfl) (eqT_struct (h := 1) (by decide) Tryz.underlying31 (by kernel_rfl) (.leaf rfl (by decide) ⟨_, Tryz.underlying3⟩ (.leaf rfl (by decide) ⟨_, Tryz.underlying3⟩ (.leaf rfl (by decide) ⟨_, Tryz.underlying29⟩ (.leaf rfl (by decide) ⟨_, Tryz.underlying29⟩ (.leaf rfl (by decide) Tryz.underlying9 (.nil _))))))) (fun w => by simp [isAgg, run_underlying Tryz.underlying31]) (t31.sizeOf))) (fun w => by simp [isAgg, run_underlying Tryz.underlying32]) (t32.sizeOf) (.nil _))))) (fun w => by simp [isAgg, run_underlying Tryz.underlying34]) (t34.sizeOf) (.leaf rfl (by decide) ⟨_, Tryz.underlying29⟩ (.nil _))))⟩
theorem t88 : TyOk Tryz.prog 88 ⟨.struct [(0, 34), (12, 29), (13, 29), (14, 29)], 15, 136, [.int .i64 0, .int .i64 0, .int .i64 0, .int .i64 0, .int .u64 0, .int .u64 0, .str [], .int .i64 0, .int .i64 0, .int .u64 0, .int .u64 0, .str [], .int .u64 0, .int .u64 0, .int .u64 0], [.int .i64, .int .i64, .int .i64, .int .i64, .int .u64, .int .u64, .str, .int .i64, .int .i64, .int .u64, .int .u64, .str, .int .u64, .int .u64, .int .u64]⟩ := ⟨by kernel_rfl, rfl, rfl, ⟨_, Tryz.underlying88, rfl, by kernel_rfl⟩, eqT_ok (h := 5) (by decide) (by kernel_rfl) (eqT_struct (h := 4) (by decide) Tryz.underlying88 (by kernel_rfl) (.sub (ks := [.int .i64, .int .i64, .int .i64, .int .i64, .int .u64, .int .u64, .str, .int .i64, .int .i64, .int .u64, .int .u64, .str]) rfl (by decide) (EqT.up (h := 4) (by decide) (eqT_struct (h := 3) (by decide) Tryz.underlying34 (by kernel_rfl) (.sub (ks := [.int .i64, .int .i64]) rfl (by decide) (EqT.up (h := 2) (by decide) (eqT_arrL (h := 1) (n := 2) (k := .int .i64) (by decide) Tryz.underlying28 (Option.eq_some_of_isSome (by kernel_rfl)) (by kernel_rfl) ⟨_, Tryz.underlying3⟩)) (fun w => by simp [isAgg, run_underlying Tryz.underlying28]) (t28.sizeOf) (.sub (ks := [.int .i64, .int .i64, .int .u64, .int .u64, .str, .int .i64, .int .i64, .int .u64, .int .u64, .str]) rfl (by decide) (EqT.up (h := 3) (by decide) (eqT_arrS (h := 2) (n := 2) (ks := [.int .i64, .int .i64, .int .u64, .int .u64, .str]) Tryz.underlying32 (Option.eq_some_of_isSome (by kernel_rfl)) (by kernel_rfl) (eqT_struct (h := 1) (by decide) Tryz.underlying31 (by kernel_rfl) (.leaf rfl (by decide) ⟨_, Tryz.underlying3⟩ (.leaf rfl (by decide) ⟨_, Tryz.underlying3⟩ (.leaf rfl (by decide) ⟨_, Tryz.underlying29⟩ (.leaf rfl (by decide) ⟨_, Tryz.underlying29⟩ (.leaf rfl (by decide) Tryz.underlying9 (.nil _))))))) (fun w => by simp [isAgg, run_underlying Tryz.underlying31]) (t31.sizeOf))) (fun w => by simp [isAgg, run_underlying Tryz.underlying32]) (t32.sizeOf) (.nil _))))) (fun w => by simp [isAgg, run_underlying Tryz.underlying34]) (t34.sizeOf) (.leaf rfl (by decide) ⟨_, Tryz.underlying29⟩ (.leaf rfl (by decide) ⟨_, Tryz.underlying29⟩ (.leaf rfl (by decide) ⟨_, Tryz.underlying29⟩ (.nil _))))))⟩
theorem t89 : TyOk Tryz.prog 89 ⟨.struct [(0, 34), (12, 29), (13, 29), (14, 29)], 15, 136, [.int .i64 0, .int .i64 0, .int .i64 0, .int .i64 0, .int .u64 0, .int .u64 0, .str [], .int .i64 0, .int .i64 0, .int .u64 0, .int .u64 0, .str [], .int .u64 0, .int .u64 0, .int .u64 0], [.int .i64, .int .i64, .int .i64, .int .i64, .int .u64, .int .u64, .str, .int .i64, .int .i64, .int .u64, .int .u64, .str, .int .u64, .int .u64, .int .u64]⟩ := ⟨by kernel_rfl, rfl, rfl, ⟨_, Tryz.underlying89, rfl, by kernel_rfl⟩, eqT_ok (h := 5) (by decide) (by kernel_rfl) (eqT_struct (h := 4) (by decide) Tryz.underlying89 (by kernel_rfl) (.sub (ks := [.int .i64, .int .i64, .int .i64, .int .i64, .int .u64, .int .u64, .str, .int .i64, .int .i64, .int .u64, .int .u64, .str]) rfl (by decide) (EqT.up (h := 4) (by decide) (eqT_struct (h := 3) (by decide) Tryz.underlying34 (by kernel_rfl) (.sub (ks := [.int .i64, .int .i64]) rfl (by decide) (EqT.up (h := 2) (by decide) (eqT_arrL (h := 1) (n := 2) (k := .int .i64) (by decide) Tryz.underlying28 (Option.eq_some_of_isSome (by kernel_rfl)) (by kernel_rfl) ⟨_, Tryz.underlying3⟩)) (fun w => by simp [isAgg, run_underlying Tryz.underlying28]) (t28.sizeOf) (.sub (ks := [.int .i64, .int .i64, .int .u64, .int .u64, .str, .int .i64, .int .i64, .int .u64, .int .u64, .str]) rfl (by decide) (EqT.up (h := 3) (by decide) (eqT_arrS (h := 2) (n := 2) (ks := [.int .i64, .int .i64, .int .u64, .int .u64, .str]) Tryz.underlying32 (Option.eq_some_of_isSome (by kernel_rfl)) (by kernel_rfl) (eqT_struct (h := 1) (by decide) Tryz.underlying31 (by kernel_rfl) (.leaf rfl (by decide) ⟨_, Tryz.underlying3⟩ (.leaf rfl (by decide) ⟨_, Tryz.underlying3⟩ (.leaf rfl (by decide) ⟨_, Tryz.underlying29⟩ (.leaf rfl (by decide) ⟨_, Tryz.underlying29⟩ (.leaf rfl (by decide) Tryz.underlying9 (.nil _))))))) (fun w => by simp [isAgg, run_underlying Tryz.underlying31]) (t31.sizeOf))) (fun w => by simp [isAgg, run_underlying Tryz.underlying32]) (t32.sizeOf) (.nil _))))) (fun w => by simp [isAgg, run_underlying Tryz.underlying34]) (t34.sizeOf) (.leaf rfl (by decide) ⟨_, Tryz.underlying29⟩ (.leaf rfl (by decide) ⟨_, Tryz.underlying29⟩ (.leaf rfl (by decide) ⟨_, Tryz.underlying29⟩ (.nil _))))))⟩
theorem t93 : TyOk Tryz.prog 93 ⟨.struct [(0, 26), (7, 29), (8, 92)], 9, 72, [.int .i64 0, .int .i64 0, .int .i64 0, .int .i64 0, .int .i64 0, .int .i64 0, .int .i64 0, .int .u64 0, .nilm], []⟩ := ⟨by kernel_rfl, rfl, rfl, ⟨_, Tryz.underlying93, rfl, by kernel_rfl⟩, fun h => absurd rfl h⟩
theorem t94 : TyOk Tryz.prog 94 ⟨.struct [(0, 26), (7, 29), (8, 92)], 9, 72, [.int .i64 0, .int .i64 0, .int .i64 0, .int .i64 0, .int .i64 0, .int .i64 0, .int .i64 0, .int .u64 0, .nilm], []⟩ := ⟨by kernel_rfl, rfl, rfl, ⟨_, Tryz.underlying94, rfl, by kernel_rfl⟩, fun h => absurd rfl h⟩
theorem t102 : TyOk Tryz.prog 102 ⟨.struct [(0, 34), (12, 29), (13, 29)], 14, 128, [.int .i64 0, .int .i64 0, .int .i64 0, .int .i64 0, .int .u64 0, .int .u64 0, .str [], .int .i64 0, .int .i64 0, .int .u64 0, .int .u64 0, .str [], .int .u64 0, .int .u64 0], [.int .i64, .int .i64, .int .i64, .int .i64, .int .u64, .int .u64, .str, .int .i64, .int .i64, .int .u64, .int .u64, .str, .int .u64, .int .u64]⟩ := ⟨by kernel_rfl, rfl, rfl, ⟨_, Tryz.underlying102, rfl, by kernel_rfl⟩, eqT_ok (h := 5) (by decide) (by kernel_rfl) (eqT_struct (h := 4) (by decide) Tryz.underlying102 (by kernel_rfl) (.sub (ks := [.int .i64, .int .i64, .int .i64, .int .i64, .int .u64, .int .u64, .str, .int .i64, .int .i64, .int .u64, .int .u64, .str]) rfl (by decide) (EqT.up (h := 4) (by decide) (eqT_struct (h := 3) (by decide) Tryz.underlying34 (by kernel_rfl) (.sub (ks := [.int .i64, .int .i64]) rfl (by decide) (EqT.up (h := 2) (by decide) (eqT_arrL (h := 1) (n := 2) (k := .int .i64) (by decide) Tryz.underlying28 (Option.eq_some_of_isSome (by kernel_rfl)) (by kernel_rfl) ⟨_, Tryz.underlying3⟩)) (fun w => by simp [isAgg, run_underlying Tryz.underlying28]) (t28.sizeOf) (.sub (ks := [.int .i64, .int .i64, .int .u64, .int .u64, .str, .int .i64, .int .i64, .int .u64, .int .u64, .str]) rfl (by decide) (EqT.up (h := 3) (by decide) (eqT_arrS (h := 2) (n := 2) (ks := [.int .i64, .int .i64, .int .u64, .int .u64, .str]) Tryz.underlying32 (Option.eq_some_of_isSome (by kernel_rfl)) (by kernel_rfl) (eqT_struct (h := 1) (by decide) Tryz.underlying31 (by kernel_rfl) (.leaf rfl (by decide) ⟨_, Tryz.underlying3⟩ (.leaf rfl (by decide) ⟨_, Tryz.underlying3⟩ (.leaf rfl (by decide) ⟨_, Tryz.underlying29⟩ (.leaf rfl (by decide) ⟨_, Tryz.underlying29⟩ (.leaf rfl (by decide) Tryz.underlying9 (.nil _))))))) (fun w => by simp [isAgg, run_underlying Tryz.underlying31]) (t31.sizeOf))) (fun w => by simp [isAgg, run_underlying Tryz.underlying32]) (t32.sizeOf) (.nil _))))) (fun w => by simp [isAgg, run_underlying Tryz.underlying34]) (t34.sizeOf) (.leaf rfl (by decide) ⟨_, Tryz.underlying29⟩ (.leaf rfl (by decide) ⟨_, Tryz.underlying29⟩ (.nil _)))))⟩
theorem t103 : TyOk Tryz.prog 103 ⟨.struct [(0, 34), (12, 29), (13, 29)], 14, 128, [.int .i64 0, .int .i64 0, .int .i64 0, .int .i64 0, .int .u64 0, .int .u64 0, .str [], .int .i64 0, .int .i64 0, .int .u64 0, .int .u64 0, .str [], .int .u64 0, .int .u64 0], [.int .i64, .int .i64, .int .i64, .int .i64, .int .u64, .int .u64, .str, .int .i64, .int .i64, .int .u64, .int .u64, .str, .int .u64, .int .u64]⟩ := ⟨by kernel_rfl, rfl, rfl, ⟨_, Tryz.underlying103, rfl, by kernel_rfl⟩, eqT_ok (h := 5) (by decide) (by kernel_rfl) (eqT_struct (h := 4) (by decide) Tryz.underlying103 (by kernel_rfl) (.sub (ks := [.int .i64, .int .i64, .int .i64, .int .i64, .int .u64, .int .u64, .str, .int .i64, .int .i64, .int .u64, .int .u64, .str]) rfl (by decide) (EqT.up (h := 4) (by decide) (eqT_struct (h := 3) (by decide) Tryz.underlying34 (by kernel_rfl) (.sub (ks := [.int .i64, .int .i64]) rfl (by decide) (EqT.up (h := 2) (by decide) (eqT_arrL (h := 1) (n := 2) (k := .int .i64) (by decide) Tryz.underlying28 (Option.eq_some_of_isSome (by kernel_rfl)) (by kernel_rfl) ⟨_, Tryz.underlying3⟩)) (fun w => by simp [isAgg, run_underlying Tryz.underlying28]) (t28.sizeOf) (.sub (ks := [.int .i64, .int .i64, .int .u64, .int .u64, .str, .int .i64, .int .i64, .int .u64, .int .u64, .str]) rfl (by decide) (EqT.up (h := 3) (by decide) (eqT_arrS (h := 2) (n := 2) (ks := [.int .i64, .int .i64, .int .u64, .int .u64, .str]) Tryz.underlying32 (Option.eq_some_of_isSome (by kernel_rfl)) (by kernel_rfl) (eqT_struct (h := 1) (by decide) Tryz.underlying31 (by kernel_rfl) (.leaf rfl (by decide) ⟨_, Tryz.underlying3⟩ (.leaf rfl (by decide) ⟨_, Tryz.underlying3⟩ (.leaf rfl (by decide) ⟨_, Tryz.underlying29⟩ (.leaf rfl (by decide) ⟨_, Tryz.underlying29⟩ (.leaf rfl (by decide) Tryz.underlying9 (.nil _))))))) (fun w => by simp [isAgg, run_underlying Tryz.underlying31]) (t31.sizeOf))) (fun w => by simp [isAgg, run_underlying Tryz.underlying32]) (t32.sizeOf) (.nil _))))) (fun w => by simp [isAgg, run_underlying Tryz.underlying34]) (t34.sizeOf) (.leaf rfl (by decide) ⟨_, Tryz.underlying29⟩ (.leaf rfl (by decide) ⟨_, Tryz.underlying29⟩ (.nil _)))))⟩
theorem t43 : TyOk Tryz.prog 43 ⟨.array 2 42, 16, 160, [.int .i64 0, .int .i64 0, .int .i64 0, .int .i64 0, .int .i64 0, .int .i64 0, .int .i64 0, .nils, .int .i64 0, .int .i64 0, .int .i64 0, .int .i64 0, .int .i64 0, .int .i64 0, .int .i64 0, .nils], []⟩ := ⟨by kernel_rfl, rfl, rfl, ⟨Tryz.underlying43, by kernel_rfl⟩, fun h => absurd rfl h⟩
theorem t47 : TyOk Tryz.prog 47 ⟨.struct [(0, 3), (1, 3), (2, 46)], 15, 136, [.int .i64 0, .int .i64 0, .int .i64 0, .int .i64 0, .int .i64 0, .int .i64 0, .int .u64 0, .int .u64 0, .str [], .int .i64 0, .int .i64 0, .int .u64 0, .int .u64 0, .str [], .int .u64 0], [.int .i64, .int .i64, .int .i64, .int .i64, .int .i64, .int .i64, .int .u64, .int .u64, .str, .int .i64, .int .i64, .int .u64, .int .u64, .str, .int .u64]⟩ := ⟨by kernel_rfl, rfl, rfl, ⟨_, Tryz.underlying47, rfl, by kernel_rfl⟩, eqT_ok (h := 6) (by decide) (by kernel_rfl) (eqT_struct (h := 5) (by decide) Tryz.underlying47 (by kernel_rfl) (.leaf rfl (by decide) ⟨_, Tryz.underlying3⟩ (.leaf rfl (by decide) ⟨_, Tryz.underlying3⟩ (.sub (ks := [.int .i64, .int .i64, .int .i64, .int .i64, .int .u64, .int .u64, .str, .int .i64, .int .i64, .int .u64, .int .u64, .str, .int .u64]) rfl (by decide) (EqT.up (h := 5) (by decide) (eqT_struct (h := 4) (by decide) Tryz.underlying46 (by kernel_rfl) (.sub (ks := [.int .i64, .int .i64, .int .i64, .int .i64, .int .u64, .int .u64, .str, .int .i64, .int .i64, .int .u64, .int .u64, .str]) rfl (by decide) (EqT.up (h := 4) (by decide) (eqT_struct (h := 3) (by decide) Tryz.underlying34 (by kernel_rfl) (.sub (ks := [.int .i64, .int .i64]) rfl (by decide) (EqT.up (h := 2) (by decide) (eqT_arrL (h := 1) (n := 2) (k := .int .i64) (by decide) Tryz.underlying28 (Option.eq_some_of_isSome (by kernel_rfl)) (by kernel_rfl) ⟨_, Tryz.underlying3⟩)) (fun w => by simp [isAgg, run_underlying Tryz.underlying28]) (t28.sizeOf) (.sub (ks := [.int .i64, .int .i64, .int .u64, .int .u64, .str, .int .i64, .int .i64, .int .u64, .int .u64, .str]) rfl (by decide) (EqT.up (h := 3) (by decide) (eqT_arrS (h := 2) (n := 2) (ks := [.int .i64, .int .i64, .int .u64, .int .u64, .str]) Tryz.underlying32 (Option.eq_some_of_isSome (by kernel_rfl)) (by kernel_rfl) (eqT_struct (h := 1) (by decide) Tryz.underlying31 (by kernel_rfl) (.leaf rfl (by decide) ⟨_, Tryz.underlying3⟩ (.leaf rfl (by decide) ⟨_, Tryz.underlying3⟩ (.leaf rfl (by decide) ⟨_, Tryz.underlying29⟩ (.leaf rfl (by decide) ⟨_, Tryz.underlying29⟩ (.leaf rfl (by decide) Tryz.underlying9 (.nil _))))))) (fun w => by simp [isAgg, run_underlying Tryz.underlying31]) (t31.sizeOf))) (fun w => by simp [isAgg, run_underlying Tryz.underlying32]) (t32.sizeOf) (.nil _))))) (fun w => by simp [isAgg, run_underlying Tryz.underlying34]) (t34.sizeOf) (.leaf rfl (by decide) ⟨_, Tryz.underlying29⟩ (.nil _))))) (fun w => by simp [isAgg, run_underlying Tryz.underlying46]) (t46.sizeOf) (.nil _)))))⟩
theorem t48 : TyOk Tryz.prog 48 ⟨.struct [(0, 3), (1, 3), (2, 46)], 15, 136, [.int .i64 0, .int .i64 0, .int .i64 0, .int .i64 0, .int .i64 0, .int .i64 0, .int .u64 0, .int .u64 0, .str [], .int .i64 0, .int .i64 0, .int .u64 0, .int .u64 0, .str [], .int .u64 0], [.int .i64, .int .i64, .int .i64, .int .i64, .int .i64, .int .i64, .int .u64, .int .u64, .str, .int .i64, .int .i64, .int .u64, .int .u64, .str, .int .u64]⟩ := ⟨by kernel_rfl, rfl, rfl, ⟨_, Tryz.underlying48, rfl, by kernel_rfl⟩, eqT_ok (h := 6) (by decide) (by kernel_rfl) (eqT_struct (h := 5) (by decide) Tryz.underlying48 (by kernel_rfl) (.leaf rfl (by decide) ⟨_, Tryz.underlying3⟩ (.leaf rfl (by decide) ⟨_, Tryz.underlying3⟩ (.sub (ks := [.int .i64, .int .i64, .int .i64, .int .i64, .int .u64, .int .u64, .str, .int .i64, .int .i64, .int .u64, .int .u64, .str, .int .u64]) rfl (by decide) (EqT.up (h := 5) (by decide) (eqT_struct (h := 4) (by decide) Tryz.underlying46 (by kernel_rfl) (.sub (ks := [.int .i64, .int .i64, .int .i64, .int .i64, .int .u64, .int .u64, .str, .int .i64, .int .i64, .int .u64, .int .u64, .str]) rfl (by decide) (EqT.up (h := 4) (by decide) (eqT_struct (h := 3) (by decide) Tryz.underlying34 (by kernel_rfl) (.sub (ks := [.int .i64, .int .i64]) rfl (by decide) (EqT.up (h := 2) (by decide) (eqT_arrL (h := 1) (n := 2) (k := .int .i64) (by decide) Tryz.underlying28 (Option.eq_some_of_isSome (by kernel_rfl)) (by kernel_rfl) ⟨_, Tryz.underlying3⟩)) (fun w => by simp [isAgg, run_underlying Tryz.underlying28]) (t28.sizeOf) (.sub (ks := [.int .i64, .int .i64, .int .u64, .int .u64, .str, .int .i64, .int .i64, .int .u64, .int .u64, .str]) rfl (by decide) (EqT.up (h := 3) (by decide) (eqT_arrS (h := 2) (n := 2) (ks := [.int .i64, .int .i64, .int .u64, .int .u64, .str]) Tryz.underlying32 (Option.eq_some_of_isSome (by kernel_rfl)) (by kernel_rfl) (eqT_struct (h := 1) (by decide) Tryz.underlying31 (by kernel_rfl) (.leaf rfl (by decide) ⟨_, Tryz.underlying3⟩ (.leaf rfl (by decide) ⟨_, Tryz.underlying3⟩ (.leaf rfl (by decide) ⟨_, Tryz.underlying29⟩ (.leaf rfl (by decide) ⟨_, Tryz.underlying29⟩ (.leaf rfl (by decide) Tryz.underlying9 (.nil _))))))) (fun w => by simp [isAgg, run_underlying Tryz.underlying31]) (t31.sizeOf))) (fun w => by simp [isAgg, run_underlying Tryz.underlying32]) (t32.sizeOf) (.nil _))))) (fun w => by simp [isAgg, run_underlying Tryz.underlying34]) (t34.sizeOf) (.leaf rfl (by decide) ⟨_, Tryz.underlying29⟩ (.nil _))))) (fun w => by simp [isAgg, run_underlying Tryz.underlying46]) (t46.sizeOf) (.nil _)))))⟩
def tyL : List (Option TI) := [none,
  some ⟨.func, 1, 8, [.nilf], []⟩,
  some ⟨.int .i64, 1, 8, [.int .i64 0], []⟩,
  some ⟨.int .i64, 1, 8, [.int .i64 0], []⟩,
  some ⟨.bool, 1, 1, [.bool false], []⟩,
  some ⟨.int .u8, 1, 1, [.int .u8 0], []⟩,
  none,
  none,
  none,
  some ⟨.str, 1, 16, [.str []], []⟩,
  none,
  none,
  some ⟨.int .u64, 1, 8, [.int .u64 0], []⟩,
  none,
  none,
  none,
  none,
  none,
  none,
  none,
  none,
  some ⟨.int .i32, 1, 4, [.int .i32 0], []⟩,
  some ⟨.struct [(0, 3), (1, 3), (2, 3)], 3, 24, [.int .i64 0, .int .i64 0, .int .i64 0], [.int .i64, .int .i64, .int .i64]⟩,
  some ⟨.struct [(0, 3), (1, 3), (2, 3)], 3, 24, [.int .i64 0, .int .i64 0, .int .i64 0], [.int .i64, .int .i64, .int .i64]⟩,
  some ⟨.array 2 23, 6, 48, [.int .i64 0, .int .i64 0, .int .i64 0, .int .i64 0, .int .i64 0, .int .i64 0], [.int .i64, .int .i64, .int .i64, .int .i64, .int .i64, .int .i64]⟩,
  some ⟨.struct [(0, 3), (1, 24)], 7, 56, [.int .i64 0, .int .i64 0, .int .i64 0, .int .i64 0, .int .i64 0, .int .i64 0, .int .i64 0], [.int .i64, .int .i64, .int .i64, .int .i64, .int .i64, .int .i64, .int .i64]⟩,
  some ⟨.struct [(0, 3), (1, 24)], 7, 56, [.int .i64 0, .int .i64 0, .int .i64 0, .int .i64 0, .int .i64 0, .int .i64 0, .int .i64 0], [.int .i64, .int .i64, .int .i64, .int .i64, .int .i64, .int .i64, .int .i64]⟩,
  some ⟨.slice 48, 1, 24, [.nils], []⟩,
  some ⟨.array 2 3, 2, 16, [.int .i64 0, .int .i64 0], [.int .i64, .int .i64]⟩,
  some ⟨.int .u64, 1, 8, [.int .u64 0], []⟩,
  some ⟨.struct [(0, 3), (1, 3), (2, 29), (3, 29), (4, 9)], 5, 48, [.int .i64 0, .int .i64 0, .int .u64 0, .int .u64 0, .str []], [.int .i64, .int .i64, .int .u64, .int .u64, .str]⟩,
  some ⟨.struct [(0, 3), (1, 3), (2, 29), (3, 29), (4, 9)], 5, 48, [.int .i64 0, .int .i64 0, .int .u64 0, .int .u64 0, .str []], [.int .i64, .int .i64, .int .u64, .int .u64, .str]⟩,
  some ⟨.array 2 31, 10, 96, [.int .i64 0, .int .i64 0, .int .u64 0, .int .u64 0, .str [], .int .i64 0, .int .i64 0, .int .u64 0, .int .u64 0, .str []], [.int .i64, .int .i64, .int .u64, .int .u64, .str, .int .i64, .int .i64, .int .u64, .int .u64, .str]⟩,
  some ⟨.struct [(0, 28), (2, 32)], 12, 112, [.int .i64 0, .int .i64 0, .int .i64 0, .int .i64 0, .int .u64 0, .int .u64 0, .str [], .int .i64 0, .int .i64 0, .int .u64 0, .int .u64 0, .str []], [.int .i64, .int .i64, .int .i64, .int .i64, .int .u64, .int .u64, .str, .int .i64, .int .i64, .int .u64, .int .u64, .str]⟩,
  some ⟨.struct [(0, 28), (2, 32)], 12, 112, [.int .i64 0, .int .i64 0, .int .i64 0, .int .i64 0, .int .u64 0, .int .u64 0, .str [], .int .i64 0, .int .i64 0, .int .u64 0, .int .u64 0, .str []], [.int .i64, .int .i64, .int .i64, .int .i64, .int .u64, .int .u64, .str, .int .i64, .int .i64, .int .u64, .int .u64, .str]⟩,
  some ⟨.ptr, 1, 8, [.nilp], []⟩,
  some ⟨.func, 1, 8, [.nilf], []⟩,
  some ⟨.array 2 35, 2, 16, [.nilp, .nilp], []⟩,
  some ⟨.func, 1, 8, [.nilf], []⟩,
  some ⟨.func, 1, 8, [.nilf], []⟩,
  some ⟨.slice 46, 1, 24, [.nils], []⟩,
  some ⟨.struct [(0, 26), (7, 40)], 8, 80, [.int .i64 0, .int .i64 0, .int .i64 0, .int .i64 0, .int .i64 0, .int .i64 0, .int .i64 0, .nils], []⟩,
  some ⟨.struct [(0, 26), (7, 40)], 8, 80, [.int .i64 0, .int .i64 0, .int .i64 0, .int .i64 0, .int .i64 0, .int .i64 0, .int .i64 0, .nils], []⟩,
  some ⟨.array 2 42, 16, 160, [.int .i64 0, .int .i64 0, .int .i64 0, .int .i64 0, .int .i64 0, .int .i64 0, .int .i64 0, .nils, .int .i64 0, .int .i64 0, .int .i64 0, .int .i64 0, .int .i64 0, .int .i64 0, .int .i64 0, .nils], []⟩,
  some ⟨.func, 1, 8, [.nilf], []⟩,
  some ⟨.struct [(0, 34), (12, 29)], 13, 120, [.int .i64 0, .int .i64 0, .int .i64 0, .int .i64 0, .int .u64 0, .int .u64 0, .str [], .int .i64 0, .int .i64 0, .int .u64 0, .int .u64 0, .str [], .int .u64 0], [.int .i64, .int .i64, .int .i64, .int .i64, .int .u64, .int .u64, .str, .int .i64, .int .i64, .int .u64, .int .u64, .str, .int .u64]⟩,
  some ⟨.struct [(0, 34), (12, 29)], 13, 120, [.int .i64 0, .int .i64 0, .int .i64 0, .int .i64 0, .int .u64 0, .int .u64 0, .str [], .int .i64 0, .int .i64 0, .int .u64 0, .int .u64 0, .str [], .int .u64 0], [.int .i64, .int .i64, .int .i64, .int .i64, .int .u64, .int .u64, .str, .int .i64, .int .i64, .int .u64, .int .u64, .str, .int .u64]⟩,
  some ⟨.struct [(0, 3), (1, 3), (2, 46)], 15, 136, [.int .i64 0, .int .i64 0, .int .i64 0, .int .i64 0, .int .i64 0, .int .i64 0, .int .u64 0, .int .u64 0, .str [], .int .i64 0, .int .i64 0, .int .u64 0, .int .u64 0, .str [], .int .u64 0], [.int .i64, .int .i64, .int .i64, .int .i64, .int .i64, .int .i64, .int .u64, .int .u64, .str, .int .i64, .int .i64, .int .u64, .int .u64, .str, .int .u64]⟩,
  some ⟨.struct [(0, 3), (1, 3), (2, 46)], 15, 136, [.int .i64 0, .int .i64 0, .int .i64 0, .int .i64 0, .int .i64 0, .int .i64 0, .int .u64 0, .int .u64 0, .str [], .int .i64 0, .int .i64 0, .int .u64 0, .int .u64 0, .str [], .int .u64 0], [.int .i64, .int .i64, .int .i64, .int .i64, .int .i64, .int .i64, .int .u64, .int .u64, .str, .int .i64, .int .i64, .int .u64, .int .u64, .str, .int .u64]⟩,
  some ⟨.int .i64, 1, 8, [.int .i64 0], []⟩,
  some ⟨.func, 1, 8, [.nilf], []⟩,
  none,
  some ⟨.func, 1, 8, [.nilf], []⟩,
  some ⟨.func, 1, 8, [.nilf], []⟩,
  some ⟨.func, 1, 8, [.nilf], []⟩,
  some ⟨.func, 1, 8, [.nilf], []⟩,
  some ⟨.func, 1, 8, [.nilf], []⟩,
  some ⟨.func, 1, 8, [.nilf], []⟩,
  none,
  some ⟨.func, 1, 8, [.nilf], []⟩,
  some ⟨.slice 34, 1, 24, [.nils], []⟩,
  some ⟨.func, 1, 8, [.nilf], []⟩,
  some ⟨.array 2 29, 2, 16, [.int .u64 0, .int .u64 0], [.int .u64, .int .u64]⟩,
  some ⟨.func, 1, 8, [.nilf], []⟩,
  some ⟨.func, 1, 8, [.nilf], []⟩,
  some ⟨.func, 1, 8, [.nilf], []⟩,
  some ⟨.func, 1, 8, [.nilf], []⟩,
  some ⟨.func, 1, 8, [.nilf], []⟩,
  some ⟨.func, 1, 8, [.nilf], []⟩,
  some ⟨.func, 1, 8, [.nilf], []⟩,
  some ⟨.func, 1, 8, [.nilf], []⟩,
  some ⟨.func, 1, 8, [.nilf], []⟩,
  some ⟨.func, 1, 8, [.nilf], []⟩,
  none,
  some ⟨.func, 1, 8, [.nilf], []⟩,
  some ⟨.func, 1, 8, [.nilf], []⟩,
  some ⟨.slice 89, 1, 24, [.nils], []⟩,
  none,
  some ⟨.func, 1, 8, [.nilf], []⟩,
  some ⟨.struct [(0, 4), (1, 4), (2, 4), (3, 4)], 4, 4, [.bool false, .bool false, .bool false, .bool false], [.bool, .bool, .bool, .bool]⟩,
  some ⟨.struct [(0, 4), (1, 4), (2, 4), (3, 4)], 4, 4, [.bool false, .bool false, .bool false, .bool false], [.bool, .bool, .bool, .bool]⟩,
  none,
  some ⟨.func, 1, 8, [.nilf], []⟩,
  some ⟨.func, 1, 8, [.nilf], []⟩,
  some ⟨.func, 1, 8, [.nilf], []⟩,
  some ⟨.func, 1, 8, [.nilf], []⟩,
  some ⟨.func, 1, 8, [.nilf], []⟩,
  some ⟨.func, 1, 8, [.nilf], []⟩,
  some ⟨.struct [(0, 34), (12, 29), (13, 29), (14, 29)], 15, 136, [.int .i64 0, .int .i64 0, .int .i64 0, .int .i64 0, .int .u64 0, .int .u64 0, .str [], .int .i64 0, .int .i64 0, .int .u64 0, .int .u64 0, .str [], .int .u64 0, .int .u64 0, .int .u64 0], [.int .i64, .int .i64, .int .i64, .int .i64, .int .u64, .int .u64, .str, .int .i64, .int .i64, .int .u64, .int .u64, .str, .int .u64, .int .u64, .int .u64]⟩,
  some ⟨.struct [(0, 34), (12, 29), (13, 29), (14, 29)], 15, 136, [.int .i64 0, .int .i64 0, .int .i64 0, .int .i64 0, .int .u64 0, .int .u64 0, .str [], .int .i64 0, .int .i64 0, .int .u64 0, .int .u64 0, .str [], .int .u64 0, .int .u64 0, .int .u64 0], [.int .i64, .int .i64, .int .i64, .int .i64, .int .u64, .int .u64, .str, .int .i64, .int .i64, .int .u64, .int .u64, .str, .int .u64, .int .u64, .int .u64]⟩,
  some ⟨.func, 1, 8, [.nilf], []⟩,
  some ⟨.func, 1, 8, [.nilf], []⟩,
  some ⟨.map 34 29, 1, 8, [.nilm], []⟩,
  some ⟨.struct [(0, 26), (7, 29), (8, 92)], 9, 72, [.int .i64 0, .int .i64 0, .int .i64 0, .int .i64 0, .int .i64 0, .int .i64 0, .int .i64 0, .int .u64 0, .nilm], []⟩,
  some ⟨.struct [(0, 26), (7, 29), (8, 92)], 9, 72, [.int .i64 0, .int .i64 0, .int .i64 0, .int .i64 0, .int .i64 0, .int .i64 0, .int .i64 0, .int .u64 0, .nilm], []⟩,
  some ⟨.func, 1, 8, [.nilf], []⟩,
  some ⟨.func, 1, 8, [.nilf], []⟩,
  some ⟨.func, 1, 8, [.nilf], []⟩,
  some ⟨.func, 1, 8, [.nilf], []⟩,
  some ⟨.func, 1, 8, [.nilf], []⟩,
  some ⟨.slice 103, 1, 24, [.nils], []⟩,
  some ⟨.func, 1, 8, [.nilf], []⟩,
  some ⟨.struct [(0, 34), (12, 29), (13, 29)], 14, 128, [.int .i64 0, .int .i64 0, .int .i64 0, .int .i64 0, .int .u64 0, .int .u64 0, .str [], .int .i64 0, .int .i64 0, .int .u64 0, .int .u64 0, .str [], .int .u64 0, .int .u64 0], [.int .i64, .int .i64, .int .i64, .int .i64, .int .u64, .int .u64, .str, .int .i64, .int .i64, .int .u64, .int .u64, .str, .int .u64, .int .u64]⟩,
  some ⟨.struct [(0, 34), (12, 29), (13, 29)], 14, 128, [.int .i64 0, .int .i64 0, .int .i64 0, .int .i64 0, .int .u64 0, .int .u64 0, .str [], .int .i64 0, .int .i64 0, .int .u64 0, .int .u64 0, .str [], .int .u64 0, .int .u64 0], [.int .i64, .int .i64, .int .i64, .int .i64, .int .u64, .int .u64, .str, .int .i64, .int .i64, .int .u64, .int .u64, .str, .int .u64, .int .u64]⟩,
  some ⟨.func, 1, 8, [.nilf], []⟩,
  some ⟨.func, 1, 8, [.nilf], []⟩,
  some ⟨.map 34 3, 1, 8, [.nilm], []⟩,
  some ⟨.func, 1, 8, [.nilf], []⟩,
  some ⟨.func, 1, 8, [.nilf], []⟩,
  some ⟨.func, 1, 8, [.nilf], []⟩,
  some ⟨.func, 1, 8, [.nilf], []⟩,
  some ⟨.func, 1, 8, [.nilf], []⟩,
  some ⟨.func, 1, 8, [.nilf], []⟩,
  some ⟨.func, 1, 8, [.nilf], []⟩,
  some ⟨.func, 1, 8, [.nilf], []⟩,
  some ⟨.func, 1, 8, [.nilf], []⟩,
  some ⟨.func, 1, 8, [.nilf], []⟩,
  some ⟨.func, 1, 8, [.nilf], []⟩,
  some ⟨.func, 1, 8, [.nilf], []⟩,
  some ⟨.func, 1, 8, [.nilf], []⟩,
  some ⟨.func, 1, 8, [.nilf], []⟩,
  some ⟨.struct [(0, 35), (1, 3), (2, 3), (3, 3), (4, 60)], 5, 56, [.nilp, .int .i64 0, .int .i64 0, .int .i64 0, .nils], []⟩,
  some ⟨.struct [(0, 35), (1, 3), (2, 3), (3, 3), (4, 60)], 5, 56, [.nilp, .int .i64 0, .int .i64 0, .int .i64 0, .nils], []⟩,
  some ⟨.func, 1, 8, [.nilf], []⟩,
  some ⟨.func, 1, 8, [.nilf], []⟩,
  some ⟨.func, 1, 8, [.nilf], []⟩,
  some ⟨.func, 1, 8, [.nilf], []⟩,
  some ⟨.slice 3, 1, 24, [.nils], []⟩,
  some ⟨.func, 1, 8, [.nilf], []⟩,
  some ⟨.int .u64, 1, 8, [.int .u64 0], []⟩,
  some ⟨.func, 1, 8, [.nilf], []⟩,
  some ⟨.func, 1, 8, [.nilf], []⟩,
  some ⟨.func, 1, 8, [.nilf], []⟩,
  some ⟨.func, 1, 8, [.nilf], []⟩,
  some ⟨.func, 1, 8, [.nilf], []⟩,
  some ⟨.slice 31, 1, 24, [.nils], []⟩,
  some ⟨.func, 1, 8, [.nilf], []⟩,
  some ⟨.array 2 135, 2, 48, [.nils, .nils], []⟩,
  some ⟨.func, 1, 8, [.nilf], []⟩,
  some ⟨.func, 1, 8, [.nilf], []⟩,
  some ⟨.func, 1, 8, [.nilf], []⟩,
  some ⟨.func, 1, 8, [.nilf], []⟩,
  some ⟨.func, 1, 8, [.nilf], []⟩,
  some ⟨.func, 1, 8, [.nilf], []⟩,
  some ⟨.func, 1, 8, [.nilf], []⟩,
  some ⟨.func, 1, 8, [.nilf], []⟩,
  some ⟨.func, 1, 8, [.nilf], []⟩,
  some ⟨.func, 1, 8, [.nilf], []⟩,
  some ⟨.func, 1, 8, [.nilf], []⟩,
  some ⟨.func, 1, 8, [.nilf], []⟩,
  some ⟨.func, 1, 8, [.nilf], []⟩,
  some ⟨.func, 1, 8, [.nilf], []⟩,
  some ⟨.struct [(0, 29), (1, 29)], 2, 16, [.int .u64 0, .int .u64 0], [.int .u64, .int .u64]⟩,
  some ⟨.struct [(0, 29), (1, 29)], 2, 16, [.int .u64 0, .int .u64 0], [.int .u64, .int .u64]⟩,
  some ⟨.func, 1, 8, [.nilf], []⟩,
  some ⟨.func, 1, 8, [.nilf], []⟩,
  some ⟨.func, 1, 8, [.nilf], []⟩,
  some ⟨.slice 28, 1, 24, [.nils], []⟩,
  some ⟨.func, 1, 8, [.nilf], []⟩,
  some ⟨.func, 1, 8, [.nilf], []⟩,
  some ⟨.func, 1, 8, [.nilf], []⟩,
  none,
  some ⟨.func, 1, 8, [.nilf], []⟩,
  some ⟨.func, 1, 8, [.nilf], []⟩,
  some ⟨.func, 1, 8, [.nilf], []⟩,
  some ⟨.func, 1, 8, [.nilf], []⟩,
  some ⟨.func, 1, 8, [.nilf], []⟩,
  some ⟨.func, 1, 8, [.nilf], []⟩,
  some ⟨.func, 1, 8, [.nilf], []⟩,
  some ⟨.func, 1, 8, [.nilf], []⟩,
  some ⟨.func, 1, 8, [.nilf], []⟩,
  some ⟨.func, 1, 8, [.nilf], []⟩,
  some ⟨.func, 1, 8, [.nilf], []⟩,
  some ⟨.func, 1, 8, [.nilf], []⟩,
  none,
  some ⟨.func, 1, 8, [.nilf], []⟩,
  some ⟨.func, 1, 8, [.nilf], []⟩,
  some ⟨.func, 1, 8, [.nilf], []⟩,
  some ⟨.func, 1, 8, [.nilf], []⟩,
  none,
  some ⟨.func, 1, 8, [.nilf], []⟩,
  some ⟨.slice 9, 1, 24, [.nils], []⟩,
  none,
  some ⟨.func, 1, 8, [.nilf], []⟩,
  some ⟨.func, 1, 8, [.nilf], []⟩,
  some ⟨.func, 1, 8, [.nilf], []⟩,
  some ⟨.func, 1, 8, [.nilf], []⟩,
  some ⟨.int .i64, 1, 8, [.int .i64 0], []⟩,
  none,
  some ⟨.func, 1, 8, [.nilf], []⟩,
  some ⟨.func, 1, 8, [.nilf], []⟩,
  some ⟨.func, 1, 8, [.nilf], []⟩,
  none,
  some ⟨.func, 1, 8, [.nilf], []⟩,
  some ⟨.func, 1, 8, [.nilf], []⟩,
  some ⟨.int .u32, 1, 4, [.int .u32 0], []⟩,
  some ⟨.func, 1, 8, [.nilf], []⟩,
  some ⟨.func, 1, 8, [.nilf], []⟩,
  some ⟨.func, 1, 8, [.nilf], []⟩,
  some ⟨.func, 1, 8, [.nilf], []⟩,
  some ⟨.func, 1, 8, [.nilf], []⟩,
  some ⟨.func, 1, 8, [.nilf], []⟩,
  some ⟨.func, 1, 8, [.nilf], []⟩,
  some ⟨.int .u64, 1, 8, [.int .u64 0], []⟩,
  some ⟨.func, 1, 8, [.nilf], []⟩,
  some ⟨.func, 1, 8, [.nilf], []⟩,
  some ⟨.ptr, 1, 8, [.nilp], []⟩,
  some ⟨.func, 1, 8, [.nilf], []⟩,
  some ⟨.func, 1, 8, [.nilf], []⟩,
  some ⟨.func, 1, 8, [.nilf], []⟩,
  some ⟨.func, 1, 8, [.nilf], []⟩,
  some ⟨.func, 1, 8, [.nilf], []⟩,
  some ⟨.func, 1, 8, [.nilf], []⟩,
  some ⟨.func, 1, 8, [.nilf], []⟩,
  some ⟨.ptr, 1, 8, [.nilp], []⟩,
  some ⟨.func, 1, 8, [.nilf], []⟩,
  some ⟨.func, 1, 8, [.nilf], []⟩,
  some ⟨.func, 1, 8, [.nilf], []⟩,
  some ⟨.slice 5, 1, 24, [.nils], []⟩,
  some ⟨.func, 1, 8, [.nilf], []⟩,
  some ⟨.func, 1, 8, [.nilf], []⟩,
  some ⟨.func, 1, 8, [.nilf], []⟩,
  some ⟨.ptr, 1, 8, [.nilp], []⟩,
  some ⟨.struct [(0, 222), (1, 218)], 2, 32, [.nilp, .nils], []⟩,
  some ⟨.struct [(0, 222), (1, 218)], 2, 32, [.nilp, .nils], []⟩,
  some ⟨.func, 1, 8, [.nilf], []⟩,
  none,
  none,
  none,
  some ⟨.func, 1, 8, [.nilf], []⟩,
  some ⟨.func, 1, 8, [.nilf], []⟩,
  some ⟨.func, 1, 8, [.nilf], []⟩,
  some ⟨.ptr, 1, 8, [.nilp], []⟩,
  none,
  some ⟨.func, 1, 8, [.nilf], []⟩,
  some ⟨.func, 1, 8, [.nilf], []⟩,
  none,
  some ⟨.func, 1, 8, [.nilf], []⟩,
  some ⟨.func, 1, 8, [.nilf], []⟩,
  none,
  none,
  none,
  none,
  none,
  some ⟨.func, 1, 8, [.nilf], []⟩,
  none,
  none,
  none,
  none,
  none,
  some ⟨.func, 1, 8, [.nilf], []⟩,
  none,
  none,
  some ⟨.func, 1, 8, [.nilf], []⟩,
  none,
  none,
  none,
  none]
def ty : TT := fun t => (tyL[t]?).join
theorem tok : TOk P ty := tok_of (.none (.some t1 (.some t2 (.some t3 (.some t4 (.some t5 (.none (.none (.none (.some t9 (.none (.none (.some t12 (.none (.none (.none (.none (.none (.none (.none (.none (.some t21 (.some t22 (.some t23 (.some t24 (.some t25 (.some t26 (.some t27 (.some t28 (.some t29 (.some t30 (.some t31 (.some t32 (.some t33 (.some t34 (.some t35 (.some t36 (.some t37 (.some t38 (.some t39 (.some t40 (.some t41 (.some t42 (.some t43 (.some t44 (.some t45 (.some t46 (.some t47 (.some t48 (.some t49 (.some t50 (.none (.some t52 (.some t53 (.some t54 (.some t55 (.some t56 (.some t57 (.none (.some t59 (.some t60 (.some t61 (.some t62 (.some t63 (.some t64 (.some t65 (.some t66 (.some t67 (.some t68 (.some t69 (.some t70 (.some t71 (.some t72 (.none (.some t74 (.some t75 (.some t76 (.none (.some t78 (.some t79 (.some t80 (.none (.some t82 (.some t83 (.some t84 (.some t85 (.some t86 (.some t87 (.some t88 (.some t89 (.some t90 (.some t91 (.some t92 (.some t93 (.some t94 (.some t95 (.some t96 (.some t97 (.some t98 (.some t99 (.some t100 (.some t101 (.some t102 (.some t103 (.some t104 (.some t105 (.some t106 (.some t107 (.some t108 (.some t109 (.some t110 (.some t111 (.some t112 (.some t113 (.some t114 (.some t115 (.some t116 (.some t117 (.some t118 (.some t119 (.some t120 (.some t121 (.some t122 (.some t123 (.some t124 (.some t125 (.some t126 (.some t127 (.some t128 (.some t129 (.some t130 (.some t131 (.some t132 (.some t133 (.some t134 (.some t135 (.some t136 (.some t137 (.some t138 (.some t139 (.some t140 (.some t141 (.some t142 (.some t143 (.some t144 (.some t145 (.some t146 (.some t147 (.some t148 (.some t149 (.some t150 (.some t151 (.some t152 (.some t153 (.some t154 (.some t155 (.some t156 (.some t157 (.some t158 (.some t159 (.some t160 (.none (.some t162 (.some t163 (.some t164 (.some t165 (.some t166 (.some t167 (.some t168 (.some t169 (.some t170 (.some t171 (.some t172 (.some t173 (.none (.some t175 (.some t176 (.some t177 (.some t178 (.none (.some t180 (.some t181 (.none (.some t183 (.some t184 (.some t185 (.some t186 (.some t187 (.none (.some t189 (.some t190 (.some t191 (.none (.some t193 (.some t194 (.some t195 (.some t196 (.some t197 (.some t198 (.some t199 (.some t200 (.some t201 (.some t202 (.some t203 (.some t204 (.some t205 (.some t206 (.some t207 (.some t208 (.some t209 (.some t210 (.some t211 (.some t212 (.some t213 (.some t214 (.some t215 (.some t216 (.some t217 (.some t218 (.some t219 (.some t220 (.some t221 (.some t222 (.some t223 (.some t224 (.some t225 (.none (.none (.none (.some t229 (.some t230 (.some t231 (.some t232 (.none (.some t234 (.some t235 (.none (.some t237 (.some t238 (.none (.none (.none (.none (.none (.some t244 (.none (.none (.none (.none (.none (.some t250 (.none (.none (.some t253 (.none (.none (.none (.none (.nil _)))))))))))))))))))))))))))))))))))))))))))))))))))))))))))))))))))))))))))))))))))))))))))))))))))))))))))))))))))))))))))))))))))))))))))))))))))))))))))))))))))))))))))))))))))))))))))))))))))))))))))))))))))))))))))))))))))))))))))))))))))))))))))))))))))
theorem mixed : P.follows .mixedOrders = true := by kernel_rfl
end Go.Proofs.YtgaohmfmomeflaaGreatDoor
