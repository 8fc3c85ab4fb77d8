/- The types of this program, as far as the proofs use them: made by program. -/
import Derived.Test.YtnajpmepcffnaaaGreatDoorXvc
import Derived.Test.YtnajpmepcffnaaaGreatDoorChecked
namespace Go.Proofs.YtnajpmepcffnaaaGreatDoor
open Go.Ve
set_option maxRecDepth 20000
noncomputable abbrev P : Program := Tryz.prog
/-- Contracts of the library do not tell the draws. -/
instance : Dr := ⟨⟨False⟩⟩
theorem t1 : TyOk Tryz.prog 1 ⟨.func, 1, 8, [.nilf], []⟩ := ⟨by kernel_rfl, rfl, rfl, ⟨_, _, _, Tryz.underlying1⟩, fun h => absurd rfl h⟩
theorem t2 : TyOk Tryz.prog 2 ⟨.int .i64, 1, 8, [.int .i64 0], []⟩ := ⟨by kernel_rfl, rfl, rfl, Tryz.underlying2, fun h => absurd rfl h⟩
theorem t3 : TyOk Tryz.prog 3 ⟨.int .i64, 1, 8, [.int .i64 0], []⟩ := ⟨by kernel_rfl, rfl, rfl, Tryz.underlying3, fun h => absurd rfl h⟩
theorem t4 : TyOk Tryz.prog 4 ⟨.bool, 1, 1, [.bool false], []⟩ := ⟨by kernel_rfl, rfl, rfl, Tryz.underlying4, fun h => absurd rfl h⟩
theorem t5 : TyOk Tryz.prog 5 ⟨.int .u8, 1, 1, [.int .u8 0], []⟩ := ⟨by kernel_rfl, rfl, rfl, Tryz.underlying5, fun h => absurd rfl h⟩
theorem t9 : TyOk Tryz.prog 9 ⟨.str, 1, 16, [.str []], []⟩ := ⟨by kernel_rfl, rfl, rfl, Tryz.underlying9, fun h => absurd rfl h⟩
theorem t12 : TyOk Tryz.prog 12 ⟨.int .u64, 1, 8, [.int .u64 0], []⟩ := ⟨by kernel_rfl, rfl, rfl, Tryz.underlying12, fun h => absurd rfl h⟩
theorem t21 : TyOk Tryz.prog 21 ⟨.int .i32, 1, 4, [.int .i32 0], []⟩ := ⟨by kernel_rfl, rfl, rfl, Tryz.underlying21, fun h => absurd rfl h⟩
theorem t22 : TyOk Tryz.prog 22 ⟨.slice 33, 1, 24, [.nils], []⟩ := ⟨by kernel_rfl, rfl, rfl, Tryz.underlying22, fun h => absurd rfl h⟩
theorem t23 : TyOk Tryz.prog 23 ⟨.ptr, 1, 8, [.nilp], []⟩ := ⟨by kernel_rfl, rfl, rfl, ⟨_, Tryz.underlying23, by kernel_rfl⟩, fun h => absurd rfl h⟩
theorem t24 : TyOk Tryz.prog 24 ⟨.func, 1, 8, [.nilf], []⟩ := ⟨by kernel_rfl, rfl, rfl, ⟨_, _, _, Tryz.underlying24⟩, fun h => absurd rfl h⟩
theorem t25 : TyOk Tryz.prog 25 ⟨.slice 62, 1, 24, [.nils], []⟩ := ⟨by kernel_rfl, rfl, rfl, Tryz.underlying25, fun h => absurd rfl h⟩
theorem t26 : TyOk Tryz.prog 26 ⟨.slice 55, 1, 24, [.nils], []⟩ := ⟨by kernel_rfl, rfl, rfl, Tryz.underlying26, fun h => absurd rfl h⟩
theorem t27 : TyOk Tryz.prog 27 ⟨.int .u32, 1, 4, [.int .u32 0], []⟩ := ⟨by kernel_rfl, rfl, rfl, Tryz.underlying27, fun h => absurd rfl h⟩
theorem t30 : TyOk Tryz.prog 30 ⟨.int .i64, 1, 8, [.int .i64 0], []⟩ := ⟨by kernel_rfl, rfl, rfl, Tryz.underlying30, fun h => absurd rfl h⟩
theorem t32 : TyOk Tryz.prog 32 ⟨.func, 1, 8, [.nilf], []⟩ := ⟨by kernel_rfl, rfl, rfl, ⟨_, _, _, Tryz.underlying32⟩, fun h => absurd rfl h⟩
theorem t33 : TyOk Tryz.prog 33 ⟨.slice 5, 1, 24, [.nils], []⟩ := ⟨by kernel_rfl, rfl, rfl, Tryz.underlying33, fun h => absurd rfl h⟩
theorem t37 : TyOk Tryz.prog 37 ⟨.func, 1, 8, [.nilf], []⟩ := ⟨by kernel_rfl, rfl, rfl, ⟨_, _, _, Tryz.underlying37⟩, fun h => absurd rfl h⟩
theorem t38 : TyOk Tryz.prog 38 ⟨.func, 1, 8, [.nilf], []⟩ := ⟨by kernel_rfl, rfl, rfl, ⟨_, _, _, Tryz.underlying38⟩, fun h => absurd rfl h⟩
theorem t39 : TyOk Tryz.prog 39 ⟨.func, 1, 8, [.nilf], []⟩ := ⟨by kernel_rfl, rfl, rfl, ⟨_, _, _, Tryz.underlying39⟩, fun h => absurd rfl h⟩
theorem t40 : TyOk Tryz.prog 40 ⟨.func, 1, 8, [.nilf], []⟩ := ⟨by kernel_rfl, rfl, rfl, ⟨_, _, _, Tryz.underlying40⟩, fun h => absurd rfl h⟩
theorem t41 : TyOk Tryz.prog 41 ⟨.func, 1, 8, [.nilf], []⟩ := ⟨by kernel_rfl, rfl, rfl, ⟨_, _, _, Tryz.underlying41⟩, fun h => absurd rfl h⟩
theorem t43 : TyOk Tryz.prog 43 ⟨.func, 1, 8, [.nilf], []⟩ := ⟨by kernel_rfl, rfl, rfl, ⟨_, _, _, Tryz.underlying43⟩, fun h => absurd rfl h⟩
theorem t44 : TyOk Tryz.prog 44 ⟨.func, 1, 8, [.nilf], []⟩ := ⟨by kernel_rfl, rfl, rfl, ⟨_, _, _, Tryz.underlying44⟩, fun h => absurd rfl h⟩
theorem t45 : TyOk Tryz.prog 45 ⟨.func, 1, 8, [.nilf], []⟩ := ⟨by kernel_rfl, rfl, rfl, ⟨_, _, _, Tryz.underlying45⟩, fun h => absurd rfl h⟩
theorem t46 : TyOk Tryz.prog 46 ⟨.func, 1, 8, [.nilf], []⟩ := ⟨by kernel_rfl, rfl, rfl, ⟨_, _, _, Tryz.underlying46⟩, fun h => absurd rfl h⟩
theorem t47 : TyOk Tryz.prog 47 ⟨.func, 1, 8, [.nilf], []⟩ := ⟨by kernel_rfl, rfl, rfl, ⟨_, _, _, Tryz.underlying47⟩, fun h => absurd rfl h⟩
theorem t48 : TyOk Tryz.prog 48 ⟨.func, 1, 8, [.nilf], []⟩ := ⟨by kernel_rfl, rfl, rfl, ⟨_, _, _, Tryz.underlying48⟩, fun h => absurd rfl h⟩
theorem t49 : TyOk Tryz.prog 49 ⟨.func, 1, 8, [.nilf], []⟩ := ⟨by kernel_rfl, rfl, rfl, ⟨_, _, _, Tryz.underlying49⟩, fun h => absurd rfl h⟩
theorem t50 : TyOk Tryz.prog 50 ⟨.int .u64, 1, 8, [.int .u64 0], []⟩ := ⟨by kernel_rfl, rfl, rfl, Tryz.underlying50, fun h => absurd rfl h⟩
theorem t56 : TyOk Tryz.prog 56 ⟨.slice 82, 1, 24, [.nils], []⟩ := ⟨by kernel_rfl, rfl, rfl, Tryz.underlying56, fun h => absurd rfl h⟩
theorem t60 : TyOk Tryz.prog 60 ⟨.func, 1, 8, [.nilf], []⟩ := ⟨by kernel_rfl, rfl, rfl, ⟨_, _, _, Tryz.underlying60⟩, fun h => absurd rfl h⟩
theorem t63 : TyOk Tryz.prog 63 ⟨.func, 1, 8, [.nilf], []⟩ := ⟨by kernel_rfl, rfl, rfl, ⟨_, _, _, Tryz.underlying63⟩, fun h => absurd rfl h⟩
theorem t64 : TyOk Tryz.prog 64 ⟨.func, 1, 8, [.nilf], []⟩ := ⟨by kernel_rfl, rfl, rfl, ⟨_, _, _, Tryz.underlying64⟩, fun h => absurd rfl h⟩
theorem t65 : TyOk Tryz.prog 65 ⟨.map 98 58, 1, 8, [.nilm], []⟩ := ⟨by kernel_rfl, rfl, rfl, ⟨Tryz.underlying65, by kernel_rfl, by kernel_rfl, by kernel_rfl⟩, fun h => absurd rfl h⟩
theorem t69 : TyOk Tryz.prog 69 ⟨.func, 1, 8, [.nilf], []⟩ := ⟨by kernel_rfl, rfl, rfl, ⟨_, _, _, Tryz.underlying69⟩, fun h => absurd rfl h⟩
theorem t70 : TyOk Tryz.prog 70 ⟨.ptr, 1, 8, [.nilp], []⟩ := ⟨by kernel_rfl, rfl, rfl, ⟨_, Tryz.underlying70, by kernel_rfl⟩, fun h => absurd rfl h⟩
theorem t73 : TyOk Tryz.prog 73 ⟨.func, 1, 8, [.nilf], []⟩ := ⟨by kernel_rfl, rfl, rfl, ⟨_, _, _, Tryz.underlying73⟩, fun h => absurd rfl h⟩
theorem t74 : TyOk Tryz.prog 74 ⟨.slice 78, 1, 24, [.nils], []⟩ := ⟨by kernel_rfl, rfl, rfl, Tryz.underlying74, fun h => absurd rfl h⟩
theorem t76 : TyOk Tryz.prog 76 ⟨.func, 1, 8, [.nilf], []⟩ := ⟨by kernel_rfl, rfl, rfl, ⟨_, _, _, Tryz.underlying76⟩, fun h => absurd rfl h⟩
theorem t79 : TyOk Tryz.prog 79 ⟨.func, 1, 8, [.nilf], []⟩ := ⟨by kernel_rfl, rfl, rfl, ⟨_, _, _, Tryz.underlying79⟩, fun h => absurd rfl h⟩
theorem t80 : TyOk Tryz.prog 80 ⟨.func, 1, 8, [.nilf], []⟩ := ⟨by kernel_rfl, rfl, rfl, ⟨_, _, _, Tryz.underlying80⟩, fun h => absurd rfl h⟩
theorem t83 : TyOk Tryz.prog 83 ⟨.func, 1, 8, [.nilf], []⟩ := ⟨by kernel_rfl, rfl, rfl, ⟨_, _, _, Tryz.underlying83⟩, fun h => absurd rfl h⟩
theorem t84 : TyOk Tryz.prog 84 ⟨.slice 58, 1, 24, [.nils], []⟩ := ⟨by kernel_rfl, rfl, rfl, Tryz.underlying84, fun h => absurd rfl h⟩
theorem t85 : TyOk Tryz.prog 85 ⟨.func, 1, 8, [.nilf], []⟩ := ⟨by kernel_rfl, rfl, rfl, ⟨_, _, _, Tryz.underlying85⟩, fun h => absurd rfl h⟩
theorem t86 : TyOk Tryz.prog 86 ⟨.func, 1, 8, [.nilf], []⟩ := ⟨by kernel_rfl, rfl, rfl, ⟨_, _, _, Tryz.underlying86⟩, fun h => absurd rfl h⟩
theorem t87 : TyOk Tryz.prog 87 ⟨.slice 3, 1, 24, [.nils], []⟩ := ⟨by kernel_rfl, rfl, rfl, Tryz.underlying87, fun h => absurd rfl h⟩
theorem t90 : TyOk Tryz.prog 90 ⟨.ptr, 1, 8, [.nilp], []⟩ := ⟨by kernel_rfl, rfl, rfl, ⟨_, Tryz.underlying90, by kernel_rfl⟩, fun h => absurd rfl h⟩
theorem t91 : TyOk Tryz.prog 91 ⟨.func, 1, 8, [.nilf], []⟩ := ⟨by kernel_rfl, rfl, rfl, ⟨_, _, _, Tryz.underlying91⟩, fun h => absurd rfl h⟩
theorem t92 : TyOk Tryz.prog 92 ⟨.func, 1, 8, [.nilf], []⟩ := ⟨by kernel_rfl, rfl, rfl, ⟨_, _, _, Tryz.underlying92⟩, fun h => absurd rfl h⟩
theorem t93 : TyOk Tryz.prog 93 ⟨.func, 1, 8, [.nilf], []⟩ := ⟨by kernel_rfl, rfl, rfl, ⟨_, _, _, Tryz.underlying93⟩, fun h => absurd rfl h⟩
theorem t94 : TyOk Tryz.prog 94 ⟨.func, 1, 8, [.nilf], []⟩ := ⟨by kernel_rfl, rfl, rfl, ⟨_, _, _, Tryz.underlying94⟩, fun h => absurd rfl h⟩
theorem t95 : TyOk Tryz.prog 95 ⟨.slice 98, 1, 24, [.nils], []⟩ := ⟨by kernel_rfl, rfl, rfl, Tryz.underlying95, fun h => absurd rfl h⟩
theorem t96 : TyOk Tryz.prog 96 ⟨.func, 1, 8, [.nilf], []⟩ := ⟨by kernel_rfl, rfl, rfl, ⟨_, _, _, Tryz.underlying96⟩, fun h => absurd rfl h⟩
theorem t99 : TyOk Tryz.prog 99 ⟨.func, 1, 8, [.nilf], []⟩ := ⟨by kernel_rfl, rfl, rfl, ⟨_, _, _, Tryz.underlying99⟩, fun h => absurd rfl h⟩
theorem t100 : TyOk Tryz.prog 100 ⟨.func, 1, 8, [.nilf], []⟩ := ⟨by kernel_rfl, rfl, rfl, ⟨_, _, _, Tryz.underlying100⟩, fun h => absurd rfl h⟩
theorem t101 : TyOk Tryz.prog 101 ⟨.func, 1, 8, [.nilf], []⟩ := ⟨by kernel_rfl, rfl, rfl, ⟨_, _, _, Tryz.underlying101⟩, fun h => absurd rfl h⟩
theorem t102 : TyOk Tryz.prog 102 ⟨.func, 1, 8, [.nilf], []⟩ := ⟨by kernel_rfl, rfl, rfl, ⟨_, _, _, Tryz.underlying102⟩, fun h => absurd rfl h⟩
theorem t103 : TyOk Tryz.prog 103 ⟨.func, 1, 8, [.nilf], []⟩ := ⟨by kernel_rfl, rfl, rfl, ⟨_, _, _, Tryz.underlying103⟩, fun h => absurd rfl h⟩
theorem t104 : TyOk Tryz.prog 104 ⟨.func, 1, 8, [.nilf], []⟩ := ⟨by kernel_rfl, rfl, rfl, ⟨_, _, _, Tryz.underlying104⟩, fun h => absurd rfl h⟩
theorem t105 : TyOk Tryz.prog 105 ⟨.ptr, 1, 8, [.nilp], []⟩ := ⟨by kernel_rfl, rfl, rfl, ⟨_, Tryz.underlying105, by kernel_rfl⟩, fun h => absurd rfl h⟩
theorem t106 : TyOk Tryz.prog 106 ⟨.func, 1, 8, [.nilf], []⟩ := ⟨by kernel_rfl, rfl, rfl, ⟨_, _, _, Tryz.underlying106⟩, fun h => absurd rfl h⟩
theorem t107 : TyOk Tryz.prog 107 ⟨.func, 1, 8, [.nilf], []⟩ := ⟨by kernel_rfl, rfl, rfl, ⟨_, _, _, Tryz.underlying107⟩, fun h => absurd rfl h⟩
theorem t108 : TyOk Tryz.prog 108 ⟨.func, 1, 8, [.nilf], []⟩ := ⟨by kernel_rfl, rfl, rfl, ⟨_, _, _, Tryz.underlying108⟩, fun h => absurd rfl h⟩
theorem t109 : TyOk Tryz.prog 109 ⟨.func, 1, 8, [.nilf], []⟩ := ⟨by kernel_rfl, rfl, rfl, ⟨_, _, _, Tryz.underlying109⟩, fun h => absurd rfl h⟩
theorem t110 : TyOk Tryz.prog 110 ⟨.func, 1, 8, [.nilf], []⟩ := ⟨by kernel_rfl, rfl, rfl, ⟨_, _, _, Tryz.underlying110⟩, fun h => absurd rfl h⟩
theorem t111 : TyOk Tryz.prog 111 ⟨.func, 1, 8, [.nilf], []⟩ := ⟨by kernel_rfl, rfl, rfl, ⟨_, _, _, Tryz.underlying111⟩, fun h => absurd rfl h⟩
theorem t112 : TyOk Tryz.prog 112 ⟨.func, 1, 8, [.nilf], []⟩ := ⟨by kernel_rfl, rfl, rfl, ⟨_, _, _, Tryz.underlying112⟩, fun h => absurd rfl h⟩
theorem t113 : TyOk Tryz.prog 113 ⟨.func, 1, 8, [.nilf], []⟩ := ⟨by kernel_rfl, rfl, rfl, ⟨_, _, _, Tryz.underlying113⟩, fun h => absurd rfl h⟩
theorem t116 : TyOk Tryz.prog 116 ⟨.ptr, 1, 8, [.nilp], []⟩ := ⟨by kernel_rfl, rfl, rfl, ⟨_, Tryz.underlying116, by kernel_rfl⟩, fun h => absurd rfl h⟩
theorem t117 : TyOk Tryz.prog 117 ⟨.func, 1, 8, [.nilf], []⟩ := ⟨by kernel_rfl, rfl, rfl, ⟨_, _, _, Tryz.underlying117⟩, fun h => absurd rfl h⟩
theorem t118 : TyOk Tryz.prog 118 ⟨.func, 1, 8, [.nilf], []⟩ := ⟨by kernel_rfl, rfl, rfl, ⟨_, _, _, Tryz.underlying118⟩, fun h => absurd rfl h⟩
theorem t120 : TyOk Tryz.prog 120 ⟨.func, 1, 8, [.nilf], []⟩ := ⟨by kernel_rfl, rfl, rfl, ⟨_, _, _, Tryz.underlying120⟩, fun h => absurd rfl h⟩
theorem t121 : TyOk Tryz.prog 121 ⟨.func, 1, 8, [.nilf], []⟩ := ⟨by kernel_rfl, rfl, rfl, ⟨_, _, _, Tryz.underlying121⟩, fun h => absurd rfl h⟩
theorem t122 : TyOk Tryz.prog 122 ⟨.func, 1, 8, [.nilf], []⟩ := ⟨by kernel_rfl, rfl, rfl, ⟨_, _, _, Tryz.underlying122⟩, fun h => absurd rfl h⟩
theorem t123 : TyOk Tryz.prog 123 ⟨.func, 1, 8, [.nilf], []⟩ := ⟨by kernel_rfl, rfl, rfl, ⟨_, _, _, Tryz.underlying123⟩, fun h => absurd rfl h⟩
theorem t125 : TyOk Tryz.prog 125 ⟨.func, 1, 8, [.nilf], []⟩ := ⟨by kernel_rfl, rfl, rfl, ⟨_, _, _, Tryz.underlying125⟩, fun h => absurd rfl h⟩
theorem t126 : TyOk Tryz.prog 126 ⟨.func, 1, 8, [.nilf], []⟩ := ⟨by kernel_rfl, rfl, rfl, ⟨_, _, _, Tryz.underlying126⟩, fun h => absurd rfl h⟩
theorem t127 : TyOk Tryz.prog 127 ⟨.func, 1, 8, [.nilf], []⟩ := ⟨by kernel_rfl, rfl, rfl, ⟨_, _, _, Tryz.underlying127⟩, fun h => absurd rfl h⟩
theorem t128 : TyOk Tryz.prog 128 ⟨.func, 1, 8, [.nilf], []⟩ := ⟨by kernel_rfl, rfl, rfl, ⟨_, _, _, Tryz.underlying128⟩, fun h => absurd rfl h⟩
theorem t129 : TyOk Tryz.prog 129 ⟨.func, 1, 8, [.nilf], []⟩ := ⟨by kernel_rfl, rfl, rfl, ⟨_, _, _, Tryz.underlying129⟩, fun h => absurd rfl h⟩
theorem t130 : TyOk Tryz.prog 130 ⟨.func, 1, 8, [.nilf], []⟩ := ⟨by kernel_rfl, rfl, rfl, ⟨_, _, _, Tryz.underlying130⟩, fun h => absurd rfl h⟩
theorem t131 : TyOk Tryz.prog 131 ⟨.func, 1, 8, [.nilf], []⟩ := ⟨by kernel_rfl, rfl, rfl, ⟨_, _, _, Tryz.underlying131⟩, fun h => absurd rfl h⟩
theorem t132 : TyOk Tryz.prog 132 ⟨.func, 1, 8, [.nilf], []⟩ := ⟨by kernel_rfl, rfl, rfl, ⟨_, _, _, Tryz.underlying132⟩, fun h => absurd rfl h⟩
theorem t133 : TyOk Tryz.prog 133 ⟨.func, 1, 8, [.nilf], []⟩ := ⟨by kernel_rfl, rfl, rfl, ⟨_, _, _, Tryz.underlying133⟩, fun h => absurd rfl h⟩
theorem t134 : TyOk Tryz.prog 134 ⟨.func, 1, 8, [.nilf], []⟩ := ⟨by kernel_rfl, rfl, rfl, ⟨_, _, _, Tryz.underlying134⟩, fun h => absurd rfl h⟩
theorem t135 : TyOk Tryz.prog 135 ⟨.func, 1, 8, [.nilf], []⟩ := ⟨by kernel_rfl, rfl, rfl, ⟨_, _, _, Tryz.underlying135⟩, fun h => absurd rfl h⟩
theorem t136 : TyOk Tryz.prog 136 ⟨.func, 1, 8, [.nilf], []⟩ := ⟨by kernel_rfl, rfl, rfl, ⟨_, _, _, Tryz.underlying136⟩, fun h => absurd rfl h⟩
theorem t137 : TyOk Tryz.prog 137 ⟨.func, 1, 8, [.nilf], []⟩ := ⟨by kernel_rfl, rfl, rfl, ⟨_, _, _, Tryz.underlying137⟩, fun h => absurd rfl h⟩
theorem t138 : TyOk Tryz.prog 138 ⟨.func, 1, 8, [.nilf], []⟩ := ⟨by kernel_rfl, rfl, rfl, ⟨_, _, _, Tryz.underlying138⟩, fun h => absurd rfl h⟩
theorem t141 : TyOk Tryz.prog 141 ⟨.int .u64, 1, 8, [.int .u64 0], []⟩ := ⟨by kernel_rfl, rfl, rfl, Tryz.underlying141, fun h => absurd rfl h⟩
theorem t142 : TyOk Tryz.prog 142 ⟨.func, 1, 8, [.nilf], []⟩ := ⟨by kernel_rfl, rfl, rfl, ⟨_, _, _, Tryz.underlying142⟩, fun h => absurd rfl h⟩
theorem t143 : TyOk Tryz.prog 143 ⟨.func, 1, 8, [.nilf], []⟩ := ⟨by kernel_rfl, rfl, rfl, ⟨_, _, _, Tryz.underlying143⟩, fun h => absurd rfl h⟩
theorem t144 : TyOk Tryz.prog 144 ⟨.func, 1, 8, [.nilf], []⟩ := ⟨by kernel_rfl, rfl, rfl, ⟨_, _, _, Tryz.underlying144⟩, fun h => absurd rfl h⟩
theorem t145 : TyOk Tryz.prog 145 ⟨.func, 1, 8, [.nilf], []⟩ := ⟨by kernel_rfl, rfl, rfl, ⟨_, _, _, Tryz.underlying145⟩, fun h => absurd rfl h⟩
theorem t146 : TyOk Tryz.prog 146 ⟨.func, 1, 8, [.nilf], []⟩ := ⟨by kernel_rfl, rfl, rfl, ⟨_, _, _, Tryz.underlying146⟩, fun h => absurd rfl h⟩
theorem t147 : TyOk Tryz.prog 147 ⟨.func, 1, 8, [.nilf], []⟩ := ⟨by kernel_rfl, rfl, rfl, ⟨_, _, _, Tryz.underlying147⟩, fun h => absurd rfl h⟩
theorem t148 : TyOk Tryz.prog 148 ⟨.func, 1, 8, [.nilf], []⟩ := ⟨by kernel_rfl, rfl, rfl, ⟨_, _, _, Tryz.underlying148⟩, fun h => absurd rfl h⟩
theorem t149 : TyOk Tryz.prog 149 ⟨.func, 1, 8, [.nilf], []⟩ := ⟨by kernel_rfl, rfl, rfl, ⟨_, _, _, Tryz.underlying149⟩, fun h => absurd rfl h⟩
theorem t150 : TyOk Tryz.prog 150 ⟨.func, 1, 8, [.nilf], []⟩ := ⟨by kernel_rfl, rfl, rfl, ⟨_, _, _, Tryz.underlying150⟩, fun h => absurd rfl h⟩
theorem t151 : TyOk Tryz.prog 151 ⟨.func, 1, 8, [.nilf], []⟩ := ⟨by kernel_rfl, rfl, rfl, ⟨_, _, _, Tryz.underlying151⟩, fun h => absurd rfl h⟩
theorem t152 : TyOk Tryz.prog 152 ⟨.slice 9, 1, 24, [.nils], []⟩ := ⟨by kernel_rfl, rfl, rfl, Tryz.underlying152, fun h => absurd rfl h⟩
theorem t154 : TyOk Tryz.prog 154 ⟨.func, 1, 8, [.nilf], []⟩ := ⟨by kernel_rfl, rfl, rfl, ⟨_, _, _, Tryz.underlying154⟩, fun h => absurd rfl h⟩
theorem t155 : TyOk Tryz.prog 155 ⟨.func, 1, 8, [.nilf], []⟩ := ⟨by kernel_rfl, rfl, rfl, ⟨_, _, _, Tryz.underlying155⟩, fun h => absurd rfl h⟩
theorem t156 : TyOk Tryz.prog 156 ⟨.func, 1, 8, [.nilf], []⟩ := ⟨by kernel_rfl, rfl, rfl, ⟨_, _, _, Tryz.underlying156⟩, fun h => absurd rfl h⟩
theorem t157 : TyOk Tryz.prog 157 ⟨.func, 1, 8, [.nilf], []⟩ := ⟨by kernel_rfl, rfl, rfl, ⟨_, _, _, Tryz.underlying157⟩, fun h => absurd rfl h⟩
theorem t158 : TyOk Tryz.prog 158 ⟨.func, 1, 8, [.nilf], []⟩ := ⟨by kernel_rfl, rfl, rfl, ⟨_, _, _, Tryz.underlying158⟩, fun h => absurd rfl h⟩
theorem t159 : TyOk Tryz.prog 159 ⟨.func, 1, 8, [.nilf], []⟩ := ⟨by kernel_rfl, rfl, rfl, ⟨_, _, _, Tryz.underlying159⟩, fun h => absurd rfl h⟩
theorem t160 : TyOk Tryz.prog 160 ⟨.func, 1, 8, [.nilf], []⟩ := ⟨by kernel_rfl, rfl, rfl, ⟨_, _, _, Tryz.underlying160⟩, fun h => absurd rfl h⟩
theorem t161 : TyOk Tryz.prog 161 ⟨.func, 1, 8, [.nilf], []⟩ := ⟨by kernel_rfl, rfl, rfl, ⟨_, _, _, Tryz.underlying161⟩, fun h => absurd rfl h⟩
theorem t162 : TyOk Tryz.prog 162 ⟨.func, 1, 8, [.nilf], []⟩ := ⟨by kernel_rfl, rfl, rfl, ⟨_, _, _, Tryz.underlying162⟩, fun h => absurd rfl h⟩
theorem t163 : TyOk Tryz.prog 163 ⟨.func, 1, 8, [.nilf], []⟩ := ⟨by kernel_rfl, rfl, rfl, ⟨_, _, _, Tryz.underlying163⟩, fun h => absurd rfl h⟩
theorem t166 : TyOk Tryz.prog 166 ⟨.func, 1, 8, [.nilf], []⟩ := ⟨by kernel_rfl, rfl, rfl, ⟨_, _, _, Tryz.underlying166⟩, fun h => absurd rfl h⟩
theorem t167 : TyOk Tryz.prog 167 ⟨.func, 1, 8, [.nilf], []⟩ := ⟨by kernel_rfl, rfl, rfl, ⟨_, _, _, Tryz.underlying167⟩, fun h => absurd rfl h⟩
theorem t168 : TyOk Tryz.prog 168 ⟨.func, 1, 8, [.nilf], []⟩ := ⟨by kernel_rfl, rfl, rfl, ⟨_, _, _, Tryz.underlying168⟩, fun h => absurd rfl h⟩
theorem t169 : TyOk Tryz.prog 169 ⟨.func, 1, 8, [.nilf], []⟩ := ⟨by kernel_rfl, rfl, rfl, ⟨_, _, _, Tryz.underlying169⟩, fun h => absurd rfl h⟩
theorem t170 : TyOk Tryz.prog 170 ⟨.func, 1, 8, [.nilf], []⟩ := ⟨by kernel_rfl, rfl, rfl, ⟨_, _, _, Tryz.underlying170⟩, fun h => absurd rfl h⟩
theorem t171 : TyOk Tryz.prog 171 ⟨.slice 27, 1, 24, [.nils], []⟩ := ⟨by kernel_rfl, rfl, rfl, Tryz.underlying171, fun h => absurd rfl h⟩
theorem t173 : TyOk Tryz.prog 173 ⟨.func, 1, 8, [.nilf], []⟩ := ⟨by kernel_rfl, rfl, rfl, ⟨_, _, _, Tryz.underlying173⟩, fun h => absurd rfl h⟩
theorem t174 : TyOk Tryz.prog 174 ⟨.func, 1, 8, [.nilf], []⟩ := ⟨by kernel_rfl, rfl, rfl, ⟨_, _, _, Tryz.underlying174⟩, fun h => absurd rfl h⟩
theorem t175 : TyOk Tryz.prog 175 ⟨.func, 1, 8, [.nilf], []⟩ := ⟨by kernel_rfl, rfl, rfl, ⟨_, _, _, Tryz.underlying175⟩, fun h => absurd rfl h⟩
theorem t176 : TyOk Tryz.prog 176 ⟨.func, 1, 8, [.nilf], []⟩ := ⟨by kernel_rfl, rfl, rfl, ⟨_, _, _, Tryz.underlying176⟩, fun h => absurd rfl h⟩
theorem t177 : TyOk Tryz.prog 177 ⟨.int .i64, 1, 8, [.int .i64 0], []⟩ := ⟨by kernel_rfl, rfl, rfl, Tryz.underlying177, fun h => absurd rfl h⟩
theorem t179 : TyOk Tryz.prog 179 ⟨.func, 1, 8, [.nilf], []⟩ := ⟨by kernel_rfl, rfl, rfl, ⟨_, _, _, Tryz.underlying179⟩, fun h => absurd rfl h⟩
theorem t180 : TyOk Tryz.prog 180 ⟨.func, 1, 8, [.nilf], []⟩ := ⟨by kernel_rfl, rfl, rfl, ⟨_, _, _, Tryz.underlying180⟩, fun h => absurd rfl h⟩
theorem t181 : TyOk Tryz.prog 181 ⟨.func, 1, 8, [.nilf], []⟩ := ⟨by kernel_rfl, rfl, rfl, ⟨_, _, _, Tryz.underlying181⟩, fun h => absurd rfl h⟩
theorem t183 : TyOk Tryz.prog 183 ⟨.func, 1, 8, [.nilf], []⟩ := ⟨by kernel_rfl, rfl, rfl, ⟨_, _, _, Tryz.underlying183⟩, fun h => absurd rfl h⟩
theorem t184 : TyOk Tryz.prog 184 ⟨.func, 1, 8, [.nilf], []⟩ := ⟨by kernel_rfl, rfl, rfl, ⟨_, _, _, Tryz.underlying184⟩, fun h => absurd rfl h⟩
theorem t185 : TyOk Tryz.prog 185 ⟨.func, 1, 8, [.nilf], []⟩ := ⟨by kernel_rfl, rfl, rfl, ⟨_, _, _, Tryz.underlying185⟩, fun h => absurd rfl h⟩
theorem t186 : TyOk Tryz.prog 186 ⟨.func, 1, 8, [.nilf], []⟩ := ⟨by kernel_rfl, rfl, rfl, ⟨_, _, _, Tryz.underlying186⟩, fun h => absurd rfl h⟩
theorem t187 : TyOk Tryz.prog 187 ⟨.func, 1, 8, [.nilf], []⟩ := ⟨by kernel_rfl, rfl, rfl, ⟨_, _, _, Tryz.underlying187⟩, fun h => absurd rfl h⟩
theorem t188 : TyOk Tryz.prog 188 ⟨.func, 1, 8, [.nilf], []⟩ := ⟨by kernel_rfl, rfl, rfl, ⟨_, _, _, Tryz.underlying188⟩, fun h => absurd rfl h⟩
theorem t189 : TyOk Tryz.prog 189 ⟨.func, 1, 8, [.nilf], []⟩ := ⟨by kernel_rfl, rfl, rfl, ⟨_, _, _, Tryz.underlying189⟩, fun h => absurd rfl h⟩
theorem t190 : TyOk Tryz.prog 190 ⟨.func, 1, 8, [.nilf], []⟩ := ⟨by kernel_rfl, rfl, rfl, ⟨_, _, _, Tryz.underlying190⟩, fun h => absurd rfl h⟩
theorem t191 : TyOk Tryz.prog 191 ⟨.int .u64, 1, 8, [.int .u64 0], []⟩ := ⟨by kernel_rfl, rfl, rfl, Tryz.underlying191, fun h => absurd rfl h⟩
theorem t192 : TyOk Tryz.prog 192 ⟨.func, 1, 8, [.nilf], []⟩ := ⟨by kernel_rfl, rfl, rfl, ⟨_, _, _, Tryz.underlying192⟩, fun h => absurd rfl h⟩
theorem t193 : TyOk Tryz.prog 193 ⟨.func, 1, 8, [.nilf], []⟩ := ⟨by kernel_rfl, rfl, rfl, ⟨_, _, _, Tryz.underlying193⟩, fun h => absurd rfl h⟩
theorem t194 : TyOk Tryz.prog 194 ⟨.func, 1, 8, [.nilf], []⟩ := ⟨by kernel_rfl, rfl, rfl, ⟨_, _, _, Tryz.underlying194⟩, fun h => absurd rfl h⟩
theorem t195 : TyOk Tryz.prog 195 ⟨.ptr, 1, 8, [.nilp], []⟩ := ⟨by kernel_rfl, rfl, rfl, ⟨_, Tryz.underlying195, by kernel_rfl⟩, fun h => absurd rfl h⟩
theorem t196 : TyOk Tryz.prog 196 ⟨.func, 1, 8, [.nilf], []⟩ := ⟨by kernel_rfl, rfl, rfl, ⟨_, _, _, Tryz.underlying196⟩, fun h => absurd rfl h⟩
theorem t197 : TyOk Tryz.prog 197 ⟨.func, 1, 8, [.nilf], []⟩ := ⟨by kernel_rfl, rfl, rfl, ⟨_, _, _, Tryz.underlying197⟩, fun h => absurd rfl h⟩
theorem t198 : TyOk Tryz.prog 198 ⟨.func, 1, 8, [.nilf], []⟩ := ⟨by kernel_rfl, rfl, rfl, ⟨_, _, _, Tryz.underlying198⟩, fun h => absurd rfl h⟩
theorem t199 : TyOk Tryz.prog 199 ⟨.func, 1, 8, [.nilf], []⟩ := ⟨by kernel_rfl, rfl, rfl, ⟨_, _, _, Tryz.underlying199⟩, fun h => absurd rfl h⟩
theorem t200 : TyOk Tryz.prog 200 ⟨.func, 1, 8, [.nilf], []⟩ := ⟨by kernel_rfl, rfl, rfl, ⟨_, _, _, Tryz.underlying200⟩, fun h => absurd rfl h⟩
theorem t201 : TyOk Tryz.prog 201 ⟨.func, 1, 8, [.nilf], []⟩ := ⟨by kernel_rfl, rfl, rfl, ⟨_, _, _, Tryz.underlying201⟩, fun h => absurd rfl h⟩
theorem t202 : TyOk Tryz.prog 202 ⟨.func, 1, 8, [.nilf], []⟩ := ⟨by kernel_rfl, rfl, rfl, ⟨_, _, _, Tryz.underlying202⟩, fun h => absurd rfl h⟩
theorem t203 : TyOk Tryz.prog 203 ⟨.func, 1, 8, [.nilf], []⟩ := ⟨by kernel_rfl, rfl, rfl, ⟨_, _, _, Tryz.underlying203⟩, fun h => absurd rfl h⟩
theorem t205 : TyOk Tryz.prog 205 ⟨.func, 1, 8, [.nilf], []⟩ := ⟨by kernel_rfl, rfl, rfl, ⟨_, _, _, Tryz.underlying205⟩, fun h => absurd rfl h⟩
theorem t206 : TyOk Tryz.prog 206 ⟨.ptr, 1, 8, [.nilp], []⟩ := ⟨by kernel_rfl, rfl, rfl, ⟨_, Tryz.underlying206, by kernel_rfl⟩, fun h => absurd rfl h⟩
theorem t208 : TyOk Tryz.prog 208 ⟨.func, 1, 8, [.nilf], []⟩ := ⟨by kernel_rfl, rfl, rfl, ⟨_, _, _, Tryz.underlying208⟩, fun h => absurd rfl h⟩
theorem t209 : TyOk Tryz.prog 209 ⟨.func, 1, 8, [.nilf], []⟩ := ⟨by kernel_rfl, rfl, rfl, ⟨_, _, _, Tryz.underlying209⟩, fun h => absurd rfl h⟩
theorem t210 : TyOk Tryz.prog 210 ⟨.func, 1, 8, [.nilf], []⟩ := ⟨by kernel_rfl, rfl, rfl, ⟨_, _, _, Tryz.underlying210⟩, fun h => absurd rfl h⟩
theorem t211 : TyOk Tryz.prog 211 ⟨.func, 1, 8, [.nilf], []⟩ := ⟨by kernel_rfl, rfl, rfl, ⟨_, _, _, Tryz.underlying211⟩, fun h => absurd rfl h⟩
theorem t213 : TyOk Tryz.prog 213 ⟨.func, 1, 8, [.nilf], []⟩ := ⟨by kernel_rfl, rfl, rfl, ⟨_, _, _, Tryz.underlying213⟩, fun h => absurd rfl h⟩
theorem t214 : TyOk Tryz.prog 214 ⟨.func, 1, 8, [.nilf], []⟩ := ⟨by kernel_rfl, rfl, rfl, ⟨_, _, _, Tryz.underlying214⟩, fun h => absurd rfl h⟩
theorem t215 : TyOk Tryz.prog 215 ⟨.func, 1, 8, [.nilf], []⟩ := ⟨by kernel_rfl, rfl, rfl, ⟨_, _, _, Tryz.underlying215⟩, fun h => absurd rfl h⟩
theorem t216 : TyOk Tryz.prog 216 ⟨.func, 1, 8, [.nilf], []⟩ := ⟨by kernel_rfl, rfl, rfl, ⟨_, _, _, Tryz.underlying216⟩, fun h => absurd rfl h⟩
theorem t217 : TyOk Tryz.prog 217 ⟨.func, 1, 8, [.nilf], []⟩ := ⟨by kernel_rfl, rfl, rfl, ⟨_, _, _, Tryz.underlying217⟩, fun h => absurd rfl h⟩
theorem t218 : TyOk Tryz.prog 218 ⟨.func, 1, 8, [.nilf], []⟩ := ⟨by kernel_rfl, rfl, rfl, ⟨_, _, _, Tryz.underlying218⟩, fun h => absurd rfl h⟩
theorem t219 : TyOk Tryz.prog 219 ⟨.func, 1, 8, [.nilf], []⟩ := ⟨by kernel_rfl, rfl, rfl, ⟨_, _, _, Tryz.underlying219⟩, fun h => absurd rfl h⟩
theorem t223 : TyOk Tryz.prog 223 ⟨.func, 1, 8, [.nilf], []⟩ := ⟨by kernel_rfl, rfl, rfl, ⟨_, _, _, Tryz.underlying223⟩, fun h => absurd rfl h⟩
theorem t224 : TyOk Tryz.prog 224 ⟨.func, 1, 8, [.nilf], []⟩ := ⟨by kernel_rfl, rfl, rfl, ⟨_, _, _, Tryz.underlying224⟩, fun h => absurd rfl h⟩
theorem t225 : TyOk Tryz.prog 225 ⟨.ptr, 1, 8, [.nilp], []⟩ := ⟨by kernel_rfl, rfl, rfl, ⟨_, Tryz.underlying225, by kernel_rfl⟩, fun h => absurd rfl h⟩
theorem t227 : TyOk Tryz.prog 227 ⟨.func, 1, 8, [.nilf], []⟩ := ⟨by kernel_rfl, rfl, rfl, ⟨_, _, _, Tryz.underlying227⟩, fun h => absurd rfl h⟩
theorem t228 : TyOk Tryz.prog 228 ⟨.func, 1, 8, [.nilf], []⟩ := ⟨by kernel_rfl, rfl, rfl, ⟨_, _, _, Tryz.underlying228⟩, fun h => absurd rfl h⟩
theorem t229 : TyOk Tryz.prog 229 ⟨.func, 1, 8, [.nilf], []⟩ := ⟨by kernel_rfl, rfl, rfl, ⟨_, _, _, Tryz.underlying229⟩, fun h => absurd rfl h⟩
theorem t230 : TyOk Tryz.prog 230 ⟨.func, 1, 8, [.nilf], []⟩ := ⟨by kernel_rfl, rfl, rfl, ⟨_, _, _, Tryz.underlying230⟩, fun h => absurd rfl h⟩
theorem t236 : TyOk Tryz.prog 236 ⟨.func, 1, 8, [.nilf], []⟩ := ⟨by kernel_rfl, rfl, rfl, ⟨_, _, _, Tryz.underlying236⟩, fun h => absurd rfl h⟩
theorem t237 : TyOk Tryz.prog 237 ⟨.func, 1, 8, [.nilf], []⟩ := ⟨by kernel_rfl, rfl, rfl, ⟨_, _, _, Tryz.underlying237⟩, fun h => absurd rfl h⟩
theorem t238 : TyOk Tryz.prog 238 ⟨.func, 1, 8, [.nilf], []⟩ := ⟨by kernel_rfl, rfl, rfl, ⟨_, _, _, Tryz.underlying238⟩, fun h => absurd rfl h⟩
theorem t246 : TyOk Tryz.prog 246 ⟨.func, 1, 8, [.nilf], []⟩ := ⟨by kernel_rfl, rfl, rfl, ⟨_, _, _, Tryz.underlying246⟩, fun h => absurd rfl h⟩
theorem t247 : TyOk Tryz.prog 247 ⟨.ptr, 1, 8, [.nilp], []⟩ := ⟨by kernel_rfl, rfl, rfl, ⟨_, Tryz.underlying247, by kernel_rfl⟩, fun h => absurd rfl h⟩
theorem t28 : TyOk Tryz.prog 28 ⟨.struct [(0, 27), (1, 27), (2, 27), (3, 3), (4, 3)], 5, 32, [.int .u32 0, .int .u32 0, .int .u32 0, .int .i64 0, .int .i64 0], [.int .u32, .int .u32, .int .u32, .int .i64, .int .i64]⟩ := ⟨by kernel_rfl, rfl, rfl, ⟨_, Tryz.underlying28, rfl, by kernel_rfl⟩, eqT_ok (h := 2) (by decide) (by kernel_rfl) (eqT_struct (h := 1) (by decide) Tryz.underlying28 (by kernel_rfl) (.leaf rfl (by decide) ⟨_, Tryz.underlying27⟩ (.leaf rfl (by decide) ⟨_, Tryz.underlying27⟩ (.leaf rfl (by decide) ⟨_, Tryz.underlying27⟩ (.leaf rfl (by decide) ⟨_, Tryz.underlying3⟩ (.leaf rfl (by decide) ⟨_, Tryz.underlying3⟩ (.nil _)))))))⟩
theorem t29 : TyOk Tryz.prog 29 ⟨.struct [(0, 27), (1, 27), (2, 27), (3, 3), (4, 3)], 5, 32, [.int .u32 0, .int .u32 0, .int .u32 0, .int .i64 0, .int .i64 0], [.int .u32, .int .u32, .int .u32, .int .i64, .int .i64]⟩ := ⟨by kernel_rfl, rfl, rfl, ⟨_, Tryz.underlying29, rfl, by kernel_rfl⟩, eqT_ok (h := 2) (by decide) (by kernel_rfl) (eqT_struct (h := 1) (by decide) Tryz.underlying29 (by kernel_rfl) (.leaf rfl (by decide) ⟨_, Tryz.underlying27⟩ (.leaf rfl (by decide) ⟨_, Tryz.underlying27⟩ (.leaf rfl (by decide) ⟨_, Tryz.underlying27⟩ (.leaf rfl (by decide) ⟨_, Tryz.underlying3⟩ (.leaf rfl (by decide) ⟨_, Tryz.underlying3⟩ (.nil _)))))))⟩
theorem t51 : TyOk Tryz.prog 51 ⟨.struct [(0, 3), (1, 3), (2, 50), (3, 50), (4, 9)], 5, 48, [.int .i64 0, .int .i64 0, .int .u64 0, .int .u64 0, .str []], [.int .i64, .int .i64, .int .u64, .int .u64, .str]⟩ := ⟨by kernel_rfl, rfl, rfl, ⟨_, Tryz.underlying51, rfl, by kernel_rfl⟩, eqT_ok (h := 2) (by decide) (by kernel_rfl) (eqT_struct (h := 1) (by decide) Tryz.underlying51 (by kernel_rfl) (.leaf rfl (by decide) ⟨_, Tryz.underlying3⟩ (.leaf rfl (by decide) ⟨_, Tryz.underlying3⟩ (.leaf rfl (by decide) ⟨_, Tryz.underlying50⟩ (.leaf rfl (by decide) ⟨_, Tryz.underlying50⟩ (.leaf rfl (by decide) Tryz.underlying9 (.nil _)))))))⟩
theorem t52 : TyOk Tryz.prog 52 ⟨.struct [(0, 3), (1, 3), (2, 50), (3, 50), (4, 9)], 5, 48, [.int .i64 0, .int .i64 0, .int .u64 0, .int .u64 0, .str []], [.int .i64, .int .i64, .int .u64, .int .u64, .str]⟩ := ⟨by kernel_rfl, rfl, rfl, ⟨_, Tryz.underlying52, rfl, by kernel_rfl⟩, eqT_ok (h := 2) (by decide) (by kernel_rfl) (eqT_struct (h := 1) (by decide) Tryz.underlying52 (by kernel_rfl) (.leaf rfl (by decide) ⟨_, Tryz.underlying3⟩ (.leaf rfl (by decide) ⟨_, Tryz.underlying3⟩ (.leaf rfl (by decide) ⟨_, Tryz.underlying50⟩ (.leaf rfl (by decide) ⟨_, Tryz.underlying50⟩ (.leaf rfl (by decide) Tryz.underlying9 (.nil _)))))))⟩
theorem t57 : TyOk Tryz.prog 57 ⟨.struct [(0, 3), (1, 3), (2, 56)], 3, 40, [.int .i64 0, .int .i64 0, .nils], []⟩ := ⟨by kernel_rfl, rfl, rfl, ⟨_, Tryz.underlying57, rfl, by kernel_rfl⟩, fun h => absurd rfl h⟩
theorem t58 : TyOk Tryz.prog 58 ⟨.struct [(0, 3), (1, 3), (2, 56)], 3, 40, [.int .i64 0, .int .i64 0, .nils], []⟩ := ⟨by kernel_rfl, rfl, rfl, ⟨_, Tryz.underlying58, rfl, by kernel_rfl⟩, fun h => absurd rfl h⟩
theorem t66 : TyOk Tryz.prog 66 ⟨.struct [(0, 65)], 1, 8, [.nilm], []⟩ := ⟨by kernel_rfl, rfl, rfl, ⟨_, Tryz.underlying66, rfl, by kernel_rfl⟩, fun h => absurd rfl h⟩
theorem t67 : TyOk Tryz.prog 67 ⟨.struct [(0, 65)], 1, 8, [.nilm], []⟩ := ⟨by kernel_rfl, rfl, rfl, ⟨_, Tryz.underlying67, rfl, by kernel_rfl⟩, fun h => absurd rfl h⟩
theorem t77 : TyOk Tryz.prog 77 ⟨.struct [(0, 3), (1, 33)], 2, 32, [.int .i64 0, .nils], []⟩ := ⟨by kernel_rfl, rfl, rfl, ⟨_, Tryz.underlying77, rfl, by kernel_rfl⟩, fun h => absurd rfl h⟩
theorem t78 : TyOk Tryz.prog 78 ⟨.struct [(0, 3), (1, 33)], 2, 32, [.int .i64 0, .nils], []⟩ := ⟨by kernel_rfl, rfl, rfl, ⟨_, Tryz.underlying78, rfl, by kernel_rfl⟩, fun h => absurd rfl h⟩
theorem t81 : TyOk Tryz.prog 81 ⟨.struct [(0, 3), (1, 27), (2, 3)], 3, 24, [.int .i64 0, .int .u32 0, .int .i64 0], [.int .i64, .int .u32, .int .i64]⟩ := ⟨by kernel_rfl, rfl, rfl, ⟨_, Tryz.underlying81, rfl, by kernel_rfl⟩, eqT_ok (h := 2) (by decide) (by kernel_rfl) (eqT_struct (h := 1) (by decide) Tryz.underlying81 (by kernel_rfl) (.leaf rfl (by decide) ⟨_, Tryz.underlying3⟩ (.leaf rfl (by decide) ⟨_, Tryz.underlying27⟩ (.leaf rfl (by decide) ⟨_, Tryz.underlying3⟩ (.nil _)))))⟩
theorem t82 : TyOk Tryz.prog 82 ⟨.struct [(0, 3), (1, 27), (2, 3)], 3, 24, [.int .i64 0, .int .u32 0, .int .i64 0], [.int .i64, .int .u32, .int .i64]⟩ := ⟨by kernel_rfl, rfl, rfl, ⟨_, Tryz.underlying82, rfl, by kernel_rfl⟩, eqT_ok (h := 2) (by decide) (by kernel_rfl) (eqT_struct (h := 1) (by decide) Tryz.underlying82 (by kernel_rfl) (.leaf rfl (by decide) ⟨_, Tryz.underlying3⟩ (.leaf rfl (by decide) ⟨_, Tryz.underlying27⟩ (.leaf rfl (by decide) ⟨_, Tryz.underlying3⟩ (.nil _)))))⟩
theorem t88 : TyOk Tryz.prog 88 ⟨.struct [(0, 33)], 1, 24, [.nils], []⟩ := ⟨by kernel_rfl, rfl, rfl, ⟨_, Tryz.underlying88, rfl, by kernel_rfl⟩, fun h => absurd rfl h⟩
theorem t89 : TyOk Tryz.prog 89 ⟨.struct [(0, 33)], 1, 24, [.nils], []⟩ := ⟨by kernel_rfl, rfl, rfl, ⟨_, Tryz.underlying89, rfl, by kernel_rfl⟩, fun h => absurd rfl h⟩
theorem t97 : TyOk Tryz.prog 97 ⟨.struct [(0, 27), (1, 3)], 2, 16, [.int .u32 0, .int .i64 0], [.int .u32, .int .i64]⟩ := ⟨by kernel_rfl, rfl, rfl, ⟨_, Tryz.underlying97, rfl, by kernel_rfl⟩, eqT_ok (h := 2) (by decide) (by kernel_rfl) (eqT_struct (h := 1) (by decide) Tryz.underlying97 (by kernel_rfl) (.leaf rfl (by decide) ⟨_, Tryz.underlying27⟩ (.leaf rfl (by decide) ⟨_, Tryz.underlying3⟩ (.nil _))))⟩
theorem t98 : TyOk Tryz.prog 98 ⟨.struct [(0, 27), (1, 3)], 2, 16, [.int .u32 0, .int .i64 0], [.int .u32, .int .i64]⟩ := ⟨by kernel_rfl, rfl, rfl, ⟨_, Tryz.underlying98, rfl, by kernel_rfl⟩, eqT_ok (h := 2) (by decide) (by kernel_rfl) (eqT_struct (h := 1) (by decide) Tryz.underlying98 (by kernel_rfl) (.leaf rfl (by decide) ⟨_, Tryz.underlying27⟩ (.leaf rfl (by decide) ⟨_, Tryz.underlying3⟩ (.nil _))))⟩
theorem t114 : TyOk Tryz.prog 114 ⟨.struct [(0, 33), (1, 3), (2, 30)], 3, 40, [.nils, .int .i64 0, .int .i64 0], []⟩ := ⟨by kernel_rfl, rfl, rfl, ⟨_, Tryz.underlying114, rfl, by kernel_rfl⟩, fun h => absurd rfl h⟩
theorem t115 : TyOk Tryz.prog 115 ⟨.struct [(0, 33), (1, 3), (2, 30)], 3, 40, [.nils, .int .i64 0, .int .i64 0], []⟩ := ⟨by kernel_rfl, rfl, rfl, ⟨_, Tryz.underlying115, rfl, by kernel_rfl⟩, fun h => absurd rfl h⟩
theorem t139 : TyOk Tryz.prog 139 ⟨.struct [(0, 4), (1, 33), (2, 30)], 3, 40, [.bool false, .nils, .int .i64 0], []⟩ := ⟨by kernel_rfl, rfl, rfl, ⟨_, Tryz.underlying139, rfl, by kernel_rfl⟩, fun h => absurd rfl h⟩
theorem t140 : TyOk Tryz.prog 140 ⟨.struct [(0, 4), (1, 33), (2, 30)], 3, 40, [.bool false, .nils, .int .i64 0], []⟩ := ⟨by kernel_rfl, rfl, rfl, ⟨_, Tryz.underlying140, rfl, by kernel_rfl⟩, fun h => absurd rfl h⟩
theorem t164 : TyOk Tryz.prog 164 ⟨.struct [(0, 50), (1, 50)], 2, 16, [.int .u64 0, .int .u64 0], [.int .u64, .int .u64]⟩ := ⟨by kernel_rfl, rfl, rfl, ⟨_, Tryz.underlying164, rfl, by kernel_rfl⟩, eqT_ok (h := 2) (by decide) (by kernel_rfl) (eqT_struct (h := 1) (by decide) Tryz.underlying164 (by kernel_rfl) (.leaf rfl (by decide) ⟨_, Tryz.underlying50⟩ (.leaf rfl (by decide) ⟨_, Tryz.underlying50⟩ (.nil _))))⟩
theorem t165 : TyOk Tryz.prog 165 ⟨.struct [(0, 50), (1, 50)], 2, 16, [.int .u64 0, .int .u64 0], [.int .u64, .int .u64]⟩ := ⟨by kernel_rfl, rfl, rfl, ⟨_, Tryz.underlying165, rfl, by kernel_rfl⟩, eqT_ok (h := 2) (by decide) (by kernel_rfl) (eqT_struct (h := 1) (by decide) Tryz.underlying165 (by kernel_rfl) (.leaf rfl (by decide) ⟨_, Tryz.underlying50⟩ (.leaf rfl (by decide) ⟨_, Tryz.underlying50⟩ (.nil _))))⟩
theorem t212 : TyOk Tryz.prog 212 ⟨.array 16 5, 16, 16, [.int .u8 0, .int .u8 0, .int .u8 0, .int .u8 0, .int .u8 0, .int .u8 0, .int .u8 0, .int .u8 0, .int .u8 0, .int .u8 0, .int .u8 0, .int .u8 0, .int .u8 0, .int .u8 0, .int .u8 0, .int .u8 0], []⟩ := ⟨by kernel_rfl, rfl, rfl, ⟨Tryz.underlying212, by kernel_rfl⟩, fun h => absurd rfl h⟩
theorem t34 : TyOk Tryz.prog 34 ⟨.struct [(0, 25), (1, 29), (6, 26)], 7, 80, [.nils, .int .u32 0, .int .u32 0, .int .u32 0, .int .i64 0, .int .i64 0, .nils], []⟩ := ⟨by kernel_rfl, rfl, rfl, ⟨_, Tryz.underlying34, rfl, by kernel_rfl⟩, fun h => absurd rfl h⟩
theorem t35 : TyOk Tryz.prog 35 ⟨.struct [(0, 25), (1, 29), (6, 26)], 7, 80, [.nils, .int .u32 0, .int .u32 0, .int .u32 0, .int .i64 0, .int .i64 0, .nils], []⟩ := ⟨by kernel_rfl, rfl, rfl, ⟨_, Tryz.underlying35, rfl, by kernel_rfl⟩, fun h => absurd rfl h⟩
theorem t53 : TyOk Tryz.prog 53 ⟨.array 2 52, 10, 96, [.int .i64 0, .int .i64 0, .int .u64 0, .int .u64 0, .str [], .int .i64 0, .int .i64 0, .int .u64 0, .int .u64 0, .str []], [.int .i64, .int .i64, .int .u64, .int .u64, .str, .int .i64, .int .i64, .int .u64, .int .u64, .str]⟩ := ⟨by kernel_rfl, rfl, rfl, ⟨Tryz.underlying53, by kernel_rfl⟩, eqT_ok (h := 3) (by decide) (by kernel_rfl) (eqT_arrS (h := 2) (n := 2) (ks := [.int .i64, .int .i64, .int .u64, .int .u64, .str]) Tryz.underlying53 (Option.eq_some_of_isSome (by kernel_rfl)) (by kernel_rfl) (eqT_struct (h := 1) (by decide) Tryz.underlying52 (by kernel_rfl) (.leaf rfl (by decide) ⟨_, Tryz.underlying3⟩ (.leaf rfl (by decide) ⟨_, Tryz.underlying3⟩ (.leaf rfl (by decide) ⟨_, Tryz.underlying50⟩ (.leaf rfl (by decide) ⟨_, Tryz.underlying50⟩ (.leaf rfl (by decide) Tryz.underlying9 (.nil _))))))) (fun w => by simp [isAgg, run_underlying Tryz.underlying52]) (t52.sizeOf))⟩
theorem t61 : TyOk Tryz.prog 61 ⟨.struct [(0, 27), (1, 58)], 4, 48, [.int .u32 0, .int .i64 0, .int .i64 0, .nils], []⟩ := ⟨by kernel_rfl, rfl, rfl, ⟨_, Tryz.underlying61, rfl, by kernel_rfl⟩, fun h => absurd rfl h⟩
theorem t62 : TyOk Tryz.prog 62 ⟨.struct [(0, 27), (1, 58)], 4, 48, [.int .u32 0, .int .i64 0, .int .i64 0, .nils], []⟩ := ⟨by kernel_rfl, rfl, rfl, ⟨_, Tryz.underlying62, rfl, by kernel_rfl⟩, fun h => absurd rfl h⟩
theorem t71 : TyOk Tryz.prog 71 ⟨.struct [(0, 23), (1, 29), (6, 26)], 7, 64, [.nilp, .int .u32 0, .int .u32 0, .int .u32 0, .int .i64 0, .int .i64 0, .nils], []⟩ := ⟨by kernel_rfl, rfl, rfl, ⟨_, Tryz.underlying71, rfl, by kernel_rfl⟩, fun h => absurd rfl h⟩
theorem t72 : TyOk Tryz.prog 72 ⟨.struct [(0, 23), (1, 29), (6, 26)], 7, 64, [.nilp, .int .u32 0, .int .u32 0, .int .u32 0, .int .i64 0, .int .i64 0, .nils], []⟩ := ⟨by kernel_rfl, rfl, rfl, ⟨_, Tryz.underlying72, rfl, by kernel_rfl⟩, fun h => absurd rfl h⟩
theorem t54 : TyOk Tryz.prog 54 ⟨.struct [(0, 53), (10, 53), (20, 50), (21, 50)], 22, 208, [.int .i64 0, .int .i64 0, .int .u64 0, .int .u64 0, .str [], .int .i64 0, .int .i64 0, .int .u64 0, .int .u64 0, .str [], .int .i64 0, .int .i64 0, .int .u64 0, .int .u64 0, .str [], .int .i64 0, .int .i64 0, .int .u64 0, .int .u64 0, .str [], .int .u64 0, .int .u64 0], [.int .i64, .int .i64, .int .u64, .int .u64, .str, .int .i64, .int .i64, .int .u64, .int .u64, .str, .int .i64, .int .i64, .int .u64, .int .u64, .str, .int .i64, .int .i64, .int .u64, .int .u64, .str, .int .u64, .int .u64]⟩ := ⟨by kernel_rfl, rfl, rfl, ⟨_, Tryz.underlying54, rfl, by kernel_rfl⟩, eqT_ok (h := 4) (by decide) (by kernel_rfl) (eqT_struct (h := 3) (by decide) Tryz.underlying54 (by kernel_rfl) (.sub (ks := [.int .i64, .int .i64, .int .u64, .int .u64, .str, .int .i64, .int .i64, .int .u64, .int .u64, .str]) rfl (by decide) (EqT.up (h := 3) (by decide) (eqT_arrS (h := 2) (n := 2) (ks := [.int .i64, .int .i64, .int .u64, .int .u64, .str]) Tryz.underlying53 (Option.eq_some_of_isSome (by kernel_rfl)) (by kernel_rfl) (eqT_struct (h := 1) (by decide) Tryz.underlying52 (by kernel_rfl) (.leaf rfl (by decide) ⟨_, Tryz.underlying3⟩ (.leaf rfl (by decide) ⟨_, Tryz.underlying3⟩ (.leaf rfl (by decide) ⟨_, Tryz.underlying50⟩ (.leaf rfl (by decide) ⟨_, Tryz.underlying50⟩ (.leaf rfl (by decide) Tryz.underlying9 (.nil _))))))) (fun w => by simp [isAgg, run_underlying Tryz.underlying52]) (t52.sizeOf))) (fun w => by simp [isAgg, run_underlying Tryz.underlying53]) (t53.sizeOf) (.sub (ks := [.int .i64, .int .i64, .int .u64, .int .u64, .str, .int .i64, .int .i64, .int .u64, .int .u64, .str]) rfl (by decide) (EqT.up (h := 3) (by decide) (eqT_arrS (h := 2) (n := 2) (ks := [.int .i64, .int .i64, .int .u64, .int .u64, .str]) Tryz.underlying53 (Option.eq_some_of_isSome (by kernel_rfl)) (by kernel_rfl) (eqT_struct (h := 1) (by decide) Tryz.underlying52 (by kernel_rfl) (.leaf rfl (by decide) ⟨_, Tryz.underlying3⟩ (.leaf rfl (by decide) ⟨_, Tryz.underlying3⟩ (.leaf rfl (by decide) ⟨_, Tryz.underlying50⟩ (.leaf rfl (by decide) ⟨_, Tryz.underlying50⟩ (.leaf rfl (by decide) Tryz.underlying9 (.nil _))))))) (fun w => by simp [isAgg, run_underlying Tryz.underlying52]) (t52.sizeOf))) (fun w => by simp [isAgg, run_underlying Tryz.underlying53]) (t53.sizeOf) (.leaf rfl (by decide) ⟨_, Tryz.underlying50⟩ (.leaf rfl (by decide) ⟨_, Tryz.underlying50⟩ (.nil _))))))⟩
theorem t55 : TyOk Tryz.prog 55 ⟨.struct [(0, 53), (10, 53), (20, 50), (21, 50)], 22, 208, [.int .i64 0, .int .i64 0, .int .u64 0, .int .u64 0, .str [], .int .i64 0, .int .i64 0, .int .u64 0, .int .u64 0, .str [], .int .i64 0, .int .i64 0, .int .u64 0, .int .u64 0, .str [], .int .i64 0, .int .i64 0, .int .u64 0, .int .u64 0, .str [], .int .u64 0, .int .u64 0], [.int .i64, .int .i64, .int .u64, .int .u64, .str, .int .i64, .int .i64, .int .u64, .int .u64, .str, .int .i64, .int .i64, .int .u64, .int .u64, .str, .int .i64, .int .i64, .int .u64, .int .u64, .str, .int .u64, .int .u64]⟩ := ⟨by kernel_rfl, rfl, rfl, ⟨_, Tryz.underlying55, rfl, by kernel_rfl⟩, eqT_ok (h := 4) (by decide) (by kernel_rfl) (eqT_struct (h := 3) (by decide) Tryz.underlying55 (by kernel_rfl) (.sub (ks := [.int .i64, .int .i64, .int .u64, .int .u64, .str, .int .i64, .int .i64, .int .u64, .int .u64, .str]) rfl (by decide) (EqT.up (h := 3) (by decide) (eqT_arrS (h := 2) (n := 2) (ks := [.int .i64, .int .i64, .int .u64, .int .u64, .str]) Tryz.underlying53 (Option.eq_some_of_isSome (by kernel_rfl)) (by kernel_rfl) (eqT_struct (h := 1) (by decide) Tryz.underlying52 (by kernel_rfl) (.leaf rfl (by decide) ⟨_, Tryz.underlying3⟩ (.leaf rfl (by decide) ⟨_, Tryz.underlying3⟩ (.leaf rfl (by decide) ⟨_, Tryz.underlying50⟩ (.leaf rfl (by decide) ⟨_, Tryz.underlying50⟩ (.leaf rfl (by decide) Tryz.underlying9 (.nil _))))))) (fun w => by simp [isAgg, run_underlying Tryz.underlying52]) (t52.sizeOf))) (fun w => by simp [isAgg, run_underlying Tryz.underlying53]) (t53.sizeOf) (.sub (ks := [.int .i64, .int .i64, .int .u64, .int .u64, .str, .int .i64, .int .i64, .int .u64, .int .u64, .str]) rfl (by decide) (EqT.up (h := 3) (by decide) (eqT_arrS (h := 2) (n := 2) (ks := [.int .i64, .int .i64, .int .u64, .int .u64, .str]) Tryz.underlying53 (Option.eq_some_of_isSome (by kernel_rfl)) (by kernel_rfl) (eqT_struct (h := 1) (by decide) Tryz.underlying52 (by kernel_rfl) (.leaf rfl (by decide) ⟨_, Tryz.underlying3⟩ (.leaf rfl (by decide) ⟨_, Tryz.underlying3⟩ (.leaf rfl (by decide) ⟨_, Tryz.underlying50⟩ (.leaf rfl (by decide) ⟨_, Tryz.underlying50⟩ (.leaf rfl (by decide) Tryz.underlying9 (.nil _))))))) (fun w => by simp [isAgg, run_underlying Tryz.underlying52]) (t52.sizeOf))) (fun w => by simp [isAgg, run_underlying Tryz.underlying53]) (t53.sizeOf) (.leaf rfl (by decide) ⟨_, Tryz.underlying50⟩ (.leaf rfl (by decide) ⟨_, Tryz.underlying50⟩ (.nil _))))))⟩
def tyL : List (Option TI) := [none,
  some ⟨.func, 1, 8, [.nilf], []⟩,
  some ⟨.int .i64, 1, 8, [.int .i64 0], []⟩,
  some ⟨.int .i64, 1, 8, [.int .i64 0], []⟩,
  some ⟨.bool, 1, 1, [.bool false], []⟩,
  some ⟨.int .u8, 1, 1, [.int .u8 0], []⟩,
  none,
  none,
  none,
  some ⟨.str, 1, 16, [.str []], []⟩,
  none,
  none,
  some ⟨.int .u64, 1, 8, [.int .u64 0], []⟩,
  none,
  none,
  none,
  none,
  none,
  none,
  none,
  none,
  some ⟨.int .i32, 1, 4, [.int .i32 0], []⟩,
  some ⟨.slice 33, 1, 24, [.nils], []⟩,
  some ⟨.ptr, 1, 8, [.nilp], []⟩,
  some ⟨.func, 1, 8, [.nilf], []⟩,
  some ⟨.slice 62, 1, 24, [.nils], []⟩,
  some ⟨.slice 55, 1, 24, [.nils], []⟩,
  some ⟨.int .u32, 1, 4, [.int .u32 0], []⟩,
  some ⟨.struct [(0, 27), (1, 27), (2, 27), (3, 3), (4, 3)], 5, 32, [.int .u32 0, .int .u32 0, .int .u32 0, .int .i64 0, .int .i64 0], [.int .u32, .int .u32, .int .u32, .int .i64, .int .i64]⟩,
  some ⟨.struct [(0, 27), (1, 27), (2, 27), (3, 3), (4, 3)], 5, 32, [.int .u32 0, .int .u32 0, .int .u32 0, .int .i64 0, .int .i64 0], [.int .u32, .int .u32, .int .u32, .int .i64, .int .i64]⟩,
  some ⟨.int .i64, 1, 8, [.int .i64 0], []⟩,
  none,
  some ⟨.func, 1, 8, [.nilf], []⟩,
  some ⟨.slice 5, 1, 24, [.nils], []⟩,
  some ⟨.struct [(0, 25), (1, 29), (6, 26)], 7, 80, [.nils, .int .u32 0, .int .u32 0, .int .u32 0, .int .i64 0, .int .i64 0, .nils], []⟩,
  some ⟨.struct [(0, 25), (1, 29), (6, 26)], 7, 80, [.nils, .int .u32 0, .int .u32 0, .int .u32 0, .int .i64 0, .int .i64 0, .nils], []⟩,
  none,
  some ⟨.func, 1, 8, [.nilf], []⟩,
  some ⟨.func, 1, 8, [.nilf], []⟩,
  some ⟨.func, 1, 8, [.nilf], []⟩,
  some ⟨.func, 1, 8, [.nilf], []⟩,
  some ⟨.func, 1, 8, [.nilf], []⟩,
  none,
  some ⟨.func, 1, 8, [.nilf], []⟩,
  some ⟨.func, 1, 8, [.nilf], []⟩,
  some ⟨.func, 1, 8, [.nilf], []⟩,
  some ⟨.func, 1, 8, [.nilf], []⟩,
  some ⟨.func, 1, 8, [.nilf], []⟩,
  some ⟨.func, 1, 8, [.nilf], []⟩,
  some ⟨.func, 1, 8, [.nilf], []⟩,
  some ⟨.int .u64, 1, 8, [.int .u64 0], []⟩,
  some ⟨.struct [(0, 3), (1, 3), (2, 50), (3, 50), (4, 9)], 5, 48, [.int .i64 0, .int .i64 0, .int .u64 0, .int .u64 0, .str []], [.int .i64, .int .i64, .int .u64, .int .u64, .str]⟩,
  some ⟨.struct [(0, 3), (1, 3), (2, 50), (3, 50), (4, 9)], 5, 48, [.int .i64 0, .int .i64 0, .int .u64 0, .int .u64 0, .str []], [.int .i64, .int .i64, .int .u64, .int .u64, .str]⟩,
  some ⟨.array 2 52, 10, 96, [.int .i64 0, .int .i64 0, .int .u64 0, .int .u64 0, .str [], .int .i64 0, .int .i64 0, .int .u64 0, .int .u64 0, .str []], [.int .i64, .int .i64, .int .u64, .int .u64, .str, .int .i64, .int .i64, .int .u64, .int .u64, .str]⟩,
  some ⟨.struct [(0, 53), (10, 53), (20, 50), (21, 50)], 22, 208, [.int .i64 0, .int .i64 0, .int .u64 0, .int .u64 0, .str [], .int .i64 0, .int .i64 0, .int .u64 0, .int .u64 0, .str [], .int .i64 0, .int .i64 0, .int .u64 0, .int .u64 0, .str [], .int .i64 0, .int .i64 0, .int .u64 0, .int .u64 0, .str [], .int .u64 0, .int .u64 0], [.int .i64, .int .i64, .int .u64, .int .u64, .str, .int .i64, .int .i64, .int .u64, .int .u64, .str, .int .i64, .int .i64, .int .u64, .int .u64, .str, .int .i64, .int .i64, .int .u64, .int .u64, .str, .int .u64, .int .u64]⟩,
  some ⟨.struct [(0, 53), (10, 53), (20, 50), (21, 50)], 22, 208, [.int .i64 0, .int .i64 0, .int .u64 0, .int .u64 0, .str [], .int .i64 0, .int .i64 0, .int .u64 0, .int .u64 0, .str [], .int .i64 0, .int .i64 0, .int .u64 0, .int .u64 0, .str [], .int .i64 0, .int .i64 0, .int .u64 0, .int .u64 0, .str [], .int .u64 0, .int .u64 0], [.int .i64, .int .i64, .int .u64, .int .u64, .str, .int .i64, .int .i64, .int .u64, .int .u64, .str, .int .i64, .int .i64, .int .u64, .int .u64, .str, .int .i64, .int .i64, .int .u64, .int .u64, .str, .int .u64, .int .u64]⟩,
  some ⟨.slice 82, 1, 24, [.nils], []⟩,
  some ⟨.struct [(0, 3), (1, 3), (2, 56)], 3, 40, [.int .i64 0, .int .i64 0, .nils], []⟩,
  some ⟨.struct [(0, 3), (1, 3), (2, 56)], 3, 40, [.int .i64 0, .int .i64 0, .nils], []⟩,
  none,
  some ⟨.func, 1, 8, [.nilf], []⟩,
  some ⟨.struct [(0, 27), (1, 58)], 4, 48, [.int .u32 0, .int .i64 0, .int .i64 0, .nils], []⟩,
  some ⟨.struct [(0, 27), (1, 58)], 4, 48, [.int .u32 0, .int .i64 0, .int .i64 0, .nils], []⟩,
  some ⟨.func, 1, 8, [.nilf], []⟩,
  some ⟨.func, 1, 8, [.nilf], []⟩,
  some ⟨.map 98 58, 1, 8, [.nilm], []⟩,
  some ⟨.struct [(0, 65)], 1, 8, [.nilm], []⟩,
  some ⟨.struct [(0, 65)], 1, 8, [.nilm], []⟩,
  none,
  some ⟨.func, 1, 8, [.nilf], []⟩,
  some ⟨.ptr, 1, 8, [.nilp], []⟩,
  some ⟨.struct [(0, 23), (1, 29), (6, 26)], 7, 64, [.nilp, .int .u32 0, .int .u32 0, .int .u32 0, .int .i64 0, .int .i64 0, .nils], []⟩,
  some ⟨.struct [(0, 23), (1, 29), (6, 26)], 7, 64, [.nilp, .int .u32 0, .int .u32 0, .int .u32 0, .int .i64 0, .int .i64 0, .nils], []⟩,
  some ⟨.func, 1, 8, [.nilf], []⟩,
  some ⟨.slice 78, 1, 24, [.nils], []⟩,
  none,
  some ⟨.func, 1, 8, [.nilf], []⟩,
  some ⟨.struct [(0, 3), (1, 33)], 2, 32, [.int .i64 0, .nils], []⟩,
  some ⟨.struct [(0, 3), (1, 33)], 2, 32, [.int .i64 0, .nils], []⟩,
  some ⟨.func, 1, 8, [.nilf], []⟩,
  some ⟨.func, 1, 8, [.nilf], []⟩,
  some ⟨.struct [(0, 3), (1, 27), (2, 3)], 3, 24, [.int .i64 0, .int .u32 0, .int .i64 0], [.int .i64, .int .u32, .int .i64]⟩,
  some ⟨.struct [(0, 3), (1, 27), (2, 3)], 3, 24, [.int .i64 0, .int .u32 0, .int .i64 0], [.int .i64, .int .u32, .int .i64]⟩,
  some ⟨.func, 1, 8, [.nilf], []⟩,
  some ⟨.slice 58, 1, 24, [.nils], []⟩,
  some ⟨.func, 1, 8, [.nilf], []⟩,
  some ⟨.func, 1, 8, [.nilf], []⟩,
  some ⟨.slice 3, 1, 24, [.nils], []⟩,
  some ⟨.struct [(0, 33)], 1, 24, [.nils], []⟩,
  some ⟨.struct [(0, 33)], 1, 24, [.nils], []⟩,
  some ⟨.ptr, 1, 8, [.nilp], []⟩,
  some ⟨.func, 1, 8, [.nilf], []⟩,
  some ⟨.func, 1, 8, [.nilf], []⟩,
  some ⟨.func, 1, 8, [.nilf], []⟩,
  some ⟨.func, 1, 8, [.nilf], []⟩,
  some ⟨.slice 98, 1, 24, [.nils], []⟩,
  some ⟨.func, 1, 8, [.nilf], []⟩,
  some ⟨.struct [(0, 27), (1, 3)], 2, 16, [.int .u32 0, .int .i64 0], [.int .u32, .int .i64]⟩,
  some ⟨.struct [(0, 27), (1, 3)], 2, 16, [.int .u32 0, .int .i64 0], [.int .u32, .int .i64]⟩,
  some ⟨.func, 1, 8, [.nilf], []⟩,
  some ⟨.func, 1, 8, [.nilf], []⟩,
  some ⟨.func, 1, 8, [.nilf], []⟩,
  some ⟨.func, 1, 8, [.nilf], []⟩,
  some ⟨.func, 1, 8, [.nilf], []⟩,
  some ⟨.func, 1, 8, [.nilf], []⟩,
  some ⟨.ptr, 1, 8, [.nilp], []⟩,
  some ⟨.func, 1, 8, [.nilf], []⟩,
  some ⟨.func, 1, 8, [.nilf], []⟩,
  some ⟨.func, 1, 8, [.nilf], []⟩,
  some ⟨.func, 1, 8, [.nilf], []⟩,
  some ⟨.func, 1, 8, [.nilf], []⟩,
  some ⟨.func, 1, 8, [.nilf], []⟩,
  some ⟨.func, 1, 8, [.nilf], []⟩,
  some ⟨.func, 1, 8, [.nilf], []⟩,
  some ⟨.struct [(0, 33), (1, 3), (2, 30)], 3, 40, [.nils, .int .i64 0, .int .i64 0], []⟩,
  some ⟨.struct [(0, 33), (1, 3), (2, 30)], 3, 40, [.nils, .int .i64 0, .int .i64 0], []⟩,
  some ⟨.ptr, 1, 8, [.nilp], []⟩,
  some ⟨.func, 1, 8, [.nilf], []⟩,
  some ⟨.func, 1, 8, [.nilf], []⟩,
  none,
  some ⟨.func, 1, 8, [.nilf], []⟩,
  some ⟨.func, 1, 8, [.nilf], []⟩,
  some ⟨.func, 1, 8, [.nilf], []⟩,
  some ⟨.func, 1, 8, [.nilf], []⟩,
  none,
  some ⟨.func, 1, 8, [.nilf], []⟩,
  some ⟨.func, 1, 8, [.nilf], []⟩,
  some ⟨.func, 1, 8, [.nilf], []⟩,
  some ⟨.func, 1, 8, [.nilf], []⟩,
  some ⟨.func, 1, 8, [.nilf], []⟩,
  some ⟨.func, 1, 8, [.nilf], []⟩,
  some ⟨.func, 1, 8, [.nilf], []⟩,
  some ⟨.func, 1, 8, [.nilf], []⟩,
  some ⟨.func, 1, 8, [.nilf], []⟩,
  some ⟨.func, 1, 8, [.nilf], []⟩,
  some ⟨.func, 1, 8, [.nilf], []⟩,
  some ⟨.func, 1, 8, [.nilf], []⟩,
  some ⟨.func, 1, 8, [.nilf], []⟩,
  some ⟨.func, 1, 8, [.nilf], []⟩,
  some ⟨.struct [(0, 4), (1, 33), (2, 30)], 3, 40, [.bool false, .nils, .int .i64 0], []⟩,
  some ⟨.struct [(0, 4), (1, 33), (2, 30)], 3, 40, [.bool false, .nils, .int .i64 0], []⟩,
  some ⟨.int .u64, 1, 8, [.int .u64 0], []⟩,
  some ⟨.func, 1, 8, [.nilf], []⟩,
  some ⟨.func, 1, 8, [.nilf], []⟩,
  some ⟨.func, 1, 8, [.nilf], []⟩,
  some ⟨.func, 1, 8, [.nilf], []⟩,
  some ⟨.func, 1, 8, [.nilf], []⟩,
  some ⟨.func, 1, 8, [.nilf], []⟩,
  some ⟨.func, 1, 8, [.nilf], []⟩,
  some ⟨.func, 1, 8, [.nilf], []⟩,
  some ⟨.func, 1, 8, [.nilf], []⟩,
  some ⟨.func, 1, 8, [.nilf], []⟩,
  some ⟨.slice 9, 1, 24, [.nils], []⟩,
  none,
  some ⟨.func, 1, 8, [.nilf], []⟩,
  some ⟨.func, 1, 8, [.nilf], []⟩,
  some ⟨.func, 1, 8, [.nilf], []⟩,
  some ⟨.func, 1, 8, [.nilf], []⟩,
  some ⟨.func, 1, 8, [.nilf], []⟩,
  some ⟨.func, 1, 8, [.nilf], []⟩,
  some ⟨.func, 1, 8, [.nilf], []⟩,
  some ⟨.func, 1, 8, [.nilf], []⟩,
  some ⟨.func, 1, 8, [.nilf], []⟩,
  some ⟨.func, 1, 8, [.nilf], []⟩,
  some ⟨.struct [(0, 50), (1, 50)], 2, 16, [.int .u64 0, .int .u64 0], [.int .u64, .int .u64]⟩,
  some ⟨.struct [(0, 50), (1, 50)], 2, 16, [.int .u64 0, .int .u64 0], [.int .u64, .int .u64]⟩,
  some ⟨.func, 1, 8, [.nilf], []⟩,
  some ⟨.func, 1, 8, [.nilf], []⟩,
  some ⟨.func, 1, 8, [.nilf], []⟩,
  some ⟨.func, 1, 8, [.nilf], []⟩,
  some ⟨.func, 1, 8, [.nilf], []⟩,
  some ⟨.slice 27, 1, 24, [.nils], []⟩,
  none,
  some ⟨.func, 1, 8, [.nilf], []⟩,
  some ⟨.func, 1, 8, [.nilf], []⟩,
  some ⟨.func, 1, 8, [.nilf], []⟩,
  some ⟨.func, 1, 8, [.nilf], []⟩,
  some ⟨.int .i64, 1, 8, [.int .i64 0], []⟩,
  none,
  some ⟨.func, 1, 8, [.nilf], []⟩,
  some ⟨.func, 1, 8, [.nilf], []⟩,
  some ⟨.func, 1, 8, [.nilf], []⟩,
  none,
  some ⟨.func, 1, 8, [.nilf], []⟩,
  some ⟨.func, 1, 8, [.nilf], []⟩,
  some ⟨.func, 1, 8, [.nilf], []⟩,
  some ⟨.func, 1, 8, [.nilf], []⟩,
  some ⟨.func, 1, 8, [.nilf], []⟩,
  some ⟨.func, 1, 8, [.nilf], []⟩,
  some ⟨.func, 1, 8, [.nilf], []⟩,
  some ⟨.func, 1, 8, [.nilf], []⟩,
  some ⟨.int .u64, 1, 8, [.int .u64 0], []⟩,
  some ⟨.func, 1, 8, [.nilf], []⟩,
  some ⟨.func, 1, 8, [.nilf], []⟩,
  some ⟨.func, 1, 8, [.nilf], []⟩,
  some ⟨.ptr, 1, 8, [.nilp], []⟩,
  some ⟨.func, 1, 8, [.nilf], []⟩,
  some ⟨.func, 1, 8, [.nilf], []⟩,
  some ⟨.func, 1, 8, [.nilf], []⟩,
  some ⟨.func, 1, 8, [.nilf], []⟩,
  some ⟨.func, 1, 8, [.nilf], []⟩,
  some ⟨.func, 1, 8, [.nilf], []⟩,
  some ⟨.func, 1, 8, [.nilf], []⟩,
  some ⟨.func, 1, 8, [.nilf], []⟩,
  none,
  some ⟨.func, 1, 8, [.nilf], []⟩,
  some ⟨.ptr, 1, 8, [.nilp], []⟩,
  none,
  some ⟨.func, 1, 8, [.nilf], []⟩,
  some ⟨.func, 1, 8, [.nilf], []⟩,
  some ⟨.func, 1, 8, [.nilf], []⟩,
  some ⟨.func, 1, 8, [.nilf], []⟩,
  some ⟨.array 16 5, 16, 16, [.int .u8 0, .int .u8 0, .int .u8 0, .int .u8 0, .int .u8 0, .int .u8 0, .int .u8 0, .int .u8 0, .int .u8 0, .int .u8 0, .int .u8 0, .int .u8 0, .int .u8 0, .int .u8 0, .int .u8 0, .int .u8 0], []⟩,
  some ⟨.func, 1, 8, [.nilf], []⟩,
  some ⟨.func, 1, 8, [.nilf], []⟩,
  some ⟨.func, 1, 8, [.nilf], []⟩,
  some ⟨.func, 1, 8, [.nilf], []⟩,
  some ⟨.func, 1, 8, [.nilf], []⟩,
  some ⟨.func, 1, 8, [.nilf], []⟩,
  some ⟨.func, 1, 8, [.nilf], []⟩,
  none,
  none,
  none,
  some ⟨.func, 1, 8, [.nilf], []⟩,
  some ⟨.func, 1, 8, [.nilf], []⟩,
  some ⟨.ptr, 1, 8, [.nilp], []⟩,
  none,
  some ⟨.func, 1, 8, [.nilf], []⟩,
  some ⟨.func, 1, 8, [.nilf], []⟩,
  some ⟨.func, 1, 8, [.nilf], []⟩,
  some ⟨.func, 1, 8, [.nilf], []⟩,
  none,
  none,
  none,
  none,
  none,
  some ⟨.func, 1, 8, [.nilf], []⟩,
  some ⟨.func, 1, 8, [.nilf], []⟩,
  some ⟨.func, 1, 8, [.nilf], []⟩,
  none,
  none,
  none,
  none,
  none,
  none,
  none,
  some ⟨.func, 1, 8, [.nilf], []⟩,
  some ⟨.ptr, 1, 8, [.nilp], []⟩,
  none,
  none,
  none,
  none,
  none]
def ty : TT := fun t => (tyL[t]?).join
theorem tok : TOk P ty := tok_of (.none (.some t1 (.some t2 (.some t3 (.some t4 (.some t5 (.none (.none (.none (.some t9 (.none (.none (.some t12 (.none (.none (.none (.none (.none (.none (.none (.none (.some t21 (.some t22 (.some t23 (.some t24 (.some t25 (.some t26 (.some t27 (.some t28 (.some t29 (.some t30 (.none (.some t32 (.some t33 (.some t34 (.some t35 (.none (.some t37 (.some t38 (.some t39 (.some t40 (.some t41 (.none (.some t43 (.some t44 (.some t45 (.some t46 (.some t47 (.some t48 (.some t49 (.some t50 (.some t51 (.some t52 (.some t53 (.some t54 (.some t55 (.some t56 (.some t57 (.some t58 (.none (.some t60 (.some t61 (.some t62 (.some t63 (.some t64 (.some t65 (.some t66 (.some t67 (.none (.some t69 (.some t70 (.some t71 (.some t72 (.some t73 (.some t74 (.none (.some t76 (.some t77 (.some t78 (.some t79 (.some t80 (.some t81 (.some t82 (.some t83 (.some t84 (.some t85 (.some t86 (.some t87 (.some t88 (.some t89 (.some t90 (.some t91 (.some t92 (.some t93 (.some t94 (.some t95 (.some t96 (.some t97 (.some t98 (.some t99 (.some t100 (.some t101 (.some t102 (.some t103 (.some t104 (.some t105 (.some t106 (.some t107 (.some t108 (.some t109 (.some t110 (.some t111 (.some t112 (.some t113 (.some t114 (.some t115 (.some t116 (.some t117 (.some t118 (.none (.some t120 (.some t121 (.some t122 (.some t123 (.none (.some t125 (.some t126 (.some t127 (.some t128 (.some t129 (.some t130 (.some t131 (.some t132 (.some t133 (.some t134 (.some t135 (.some t136 (.some t137 (.some t138 (.some t139 (.some t140 (.some t141 (.some t142 (.some t143 (.some t144 (.some t145 (.some t146 (.some t147 (.some t148 (.some t149 (.some t150 (.some t151 (.some t152 (.none (.some t154 (.some t155 (.some t156 (.some t157 (.some t158 (.some t159 (.some t160 (.some t161 (.some t162 (.some t163 (.some t164 (.some t165 (.some t166 (.some t167 (.some t168 (.some t169 (.some t170 (.some t171 (.none (.some t173 (.some t174 (.some t175 (.some t176 (.some t177 (.none (.some t179 (.some t180 (.some t181 (.none (.some t183 (.some t184 (.some t185 (.some t186 (.some t187 (.some t188 (.some t189 (.some t190 (.some t191 (.some t192 (.some t193 (.some t194 (.some t195 (.some t196 (.some t197 (.some t198 (.some t199 (.some t200 (.some t201 (.some t202 (.some t203 (.none (.some t205 (.some t206 (.none (.some t208 (.some t209 (.some t210 (.some t211 (.some t212 (.some t213 (.some t214 (.some t215 (.some t216 (.some t217 (.some t218 (.some t219 (.none (.none (.none (.some t223 (.some t224 (.some t225 (.none (.some t227 (.some t228 (.some t229 (.some t230 (.none (.none (.none (.none (.none (.some t236 (.some t237 (.some t238 (.none (.none (.none (.none (.none (.none (.none (.some t246 (.some t247 (.none (.none (.none (.none (.none (.nil _))))))))))))))))))))))))))))))))))))))))))))))))))))))))))))))))))))))))))))))))))))))))))))))))))))))))))))))))))))))))))))))))))))))))))))))))))))))))))))))))))))))))))))))))))))))))))))))))))))))))))))))))))))))))))))))))))))))))))))))))))))))))))))))
theorem mixed : P.follows .mixedOrders = true := by kernel_rfl
end Go.Proofs.YtnajpmepcffnaaaGreatDoor
