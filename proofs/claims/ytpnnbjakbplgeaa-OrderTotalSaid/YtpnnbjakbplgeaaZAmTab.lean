/- The plain machine's tables over this seat's program. Written by a program (mktab.py). No condition. -/
import Derived.Test.YtpnnbjakbplgeaaGTab
import Derived.Test.YtpnnbjakbplgeaaProg
import Derived.KernelRfl
namespace Go.Proofs.Ytpnnbjakbplgeaa
open Go.Am
noncomputable def tyTab : List (List TypeInfo) := [[Try.t0, Try.t1, Try.t2, Try.t3, Try.t4, Try.t5, Try.t6, Try.t7, Try.t8, Try.t9, Try.t10, Try.t11, Try.t12, Try.t13, Try.t14, Try.t15],
  [Try.t16, Try.t17, Try.t18, Try.t19, Try.t20, Try.t21, Try.t22, Try.t23, Try.t24, Try.t25, Try.t26, Try.t27, Try.t28, Try.t29, Try.t30, Try.t31],
  [Try.t32, Try.t33, Try.t34, Try.t35, Try.t36, Try.t37, Try.t38, Try.t39, Try.t40, Try.t41, Try.t42, Try.t43, Try.t44, Try.t45, Try.t46, Try.t47],
  [Try.t48, Try.t49, Try.t50, Try.t51, Try.t52, Try.t53, Try.t54, Try.t55, Try.t56, Try.t57, Try.t58, Try.t59, Try.t60, Try.t61, Try.t62, Try.t63],
  [Try.t64, Try.t65, Try.t66, Try.t67, Try.t68, Try.t69, Try.t70, Try.t71, Try.t72, Try.t73, Try.t74, Try.t75, Try.t76, Try.t77, Try.t78, Try.t79],
  [Try.t80, Try.t81, Try.t82, Try.t83, Try.t84, Try.t85, Try.t86, Try.t87, Try.t88, Try.t89, Try.t90, Try.t91, Try.t92, Try.t93, Try.t94, Try.t95],
  [Try.t96, Try.t97, Try.t98, Try.t99, Try.t100, Try.t101, Try.t102, Try.t103]]
def tyOks : List (List Bool) := [[false, true, true, true, true, true, true, true, true, true, true, true, true, true, true, true],
  [true, true, true, true, true, true, true, true, true, true, true, true, true, true, true, true],
  [true, true, true, true, true, true, true, true, true, true, false, true, true, true, true, true],
  [true, true, true, true, true, true, true, true, false, true, true, true, true, true, true, true],
  [true, true, true, true, true, true, true, true, true, true, true, true, true, false, true, true],
  [true, true, true, true, true, true, true, true, true, true, true, true, true, true, true, true],
  [true, true, true, true, true, true, true, true]]
noncomputable def fnTab : List (List Func) := [[Try.f0, Try.f1, Try.f2, Try.f3, Try.f4, Try.f5, Try.f6, Try.f7, Try.f8, Try.f9, Try.f10, Try.f11, Try.f12, Try.f13, Try.f14, Try.f15],
  [Try.f16, Try.f17, Try.f18, Try.f19, Try.f20, Try.f21, Try.f22, Try.f23, Try.f24, Try.f25, Try.f26, Try.f27, Try.f28, Try.f29, Try.f30, Try.f31],
  [Try.f32, Try.f33, Try.f34, Try.f35, Try.f36, Try.f37, Try.f38, Try.f39, Try.f40, Try.f41, Try.f42, Try.f43, Try.f44, Try.f45, Try.f46, Try.f47],
  [Try.f48, Try.f49, Try.f50, Try.f51, Try.f52, Try.f53, Try.f54, Try.f55, Try.f56, Try.f57, Try.f58, Try.f59, Try.f60, Try.f61, Try.f62, Try.f63],
  [Try.f64, Try.f65, Try.f66, Try.f67, Try.f68, Try.f69, Try.f70, Try.f71, Try.f72, Try.f73, Try.f74, Try.f75, Try.f76, Try.f77, Try.f78, Try.f79],
  [Try.f80, Try.f81, Try.f82, Try.f83, Try.f84, Try.f85, Try.f86, Try.f87, Try.f88, Try.f89, Try.f90, Try.f91, Try.f92, Try.f93, Try.f94, Try.f95],
  [Try.f96]]
def fnOks : List (List Bool) := [[false, false, true, true, true, true, true, true, true, true, true, true, true, true, true, true],
  [true, true, true, true, true, true, true, true, true, true, true, true, true, true, true, true],
  [true, true, true, true, true, true, true, true, true, true, true, true, true, true, true, true],
  [true, true, true, true, true, true, true, true, true, false, true, true, true, true, true, true],
  [false, true, true, true, true, true, true, true, true, true, true, true, true, false, false, true],
  [false, false, false, false, false, false, false, false, false, false, false, false, false, false, false, false],
  [false]]
def cmpTys : List TypeId := [7, 8, 22, 23, 24, 25, 26]
noncomputable def tab : Tab := mkTab tyTab tyOks fnTab fnOks cmpTys [] []
theorem tab_types : Try.prog.types.toList = tyTab.flatten := by kernel_rfl
theorem tab_tyOks : Try.prog.types.toList.map tyOk = tyOks.flatten := by kernel_rfl
theorem tab_funcs : Try.prog.funcs.toList = fnTab.flatten := by kernel_rfl
theorem tab_fnOks : Try.prog.funcs.toList.map (fnOk []) = fnOks.flatten := by kernel_rfl
theorem tab_fits : tab.Fits Try.prog := mkTab_fits (show cmpTys.all (cmpOk Try.prog) = true by kernel_rfl) (by kernel_rfl) (by kernel_rfl) (by kernel_rfl) (by kernel_rfl) tab_types tab_tyOks tab_funcs tab_fnOks
theorem mixed : Try.prog.follows .mixedOrders = true := by kernel_rfl
theorem tab_desc0 : tab.desc 0 = Try.prog.underlying 0 := by kernel_rfl
theorem tab_desc1 : tab.desc 1 = Try.prog.underlying 1 := by kernel_rfl
theorem tab_info1 : tab.info 1 = some (1, 8, [.nilFunc]) := by kernel_rfl
theorem tab_desc2 : tab.desc 2 = Try.prog.underlying 2 := by kernel_rfl
theorem tab_info2 : tab.info 2 = some (1, 8, [.int .i64 0]) := by kernel_rfl
theorem tab_desc3 : tab.desc 3 = Try.prog.underlying 3 := by kernel_rfl
theorem tab_info3 : tab.info 3 = some (1, 8, [.int .i64 0]) := by kernel_rfl
theorem tab_desc4 : tab.desc 4 = Try.prog.underlying 4 := by kernel_rfl
theorem tab_info4 : tab.info 4 = some (1, 1, [.bool false]) := by kernel_rfl
theorem tab_desc5 : tab.desc 5 = Try.prog.underlying 5 := by kernel_rfl
theorem tab_info5 : tab.info 5 = some (1, 1, [.int .u8 0]) := by kernel_rfl
theorem tab_desc6 : tab.desc 6 = Try.prog.underlying 6 := by kernel_rfl
theorem tab_info6 : tab.info 6 = some (1, 1, [.int .u8 0]) := by kernel_rfl
theorem tab_desc7 : tab.desc 7 = Try.prog.underlying 7 := by kernel_rfl
theorem tab_info7 : tab.info 7 = some (4, 24, [.int .i64 0, .int .i64 0, .bool false, .int .u8 0]) := by kernel_rfl
theorem tab_desc8 : tab.desc 8 = Try.prog.underlying 8 := by kernel_rfl
theorem tab_info8 : tab.info 8 = some (4, 24, [.int .i64 0, .int .i64 0, .bool false, .int .u8 0]) := by kernel_rfl
theorem tab_desc9 : tab.desc 9 = Try.prog.underlying 9 := by kernel_rfl
theorem tab_info9 : tab.info 9 = some (1, 16, [.string ⟨#[]⟩]) := by kernel_rfl
theorem tab_desc10 : tab.desc 10 = Try.prog.underlying 10 := by kernel_rfl
theorem tab_info10 : tab.info 10 = some (1, 16, [.string ⟨#[]⟩]) := by kernel_rfl
theorem tab_desc11 : tab.desc 11 = Try.prog.underlying 11 := by kernel_rfl
theorem tab_info11 : tab.info 11 = some (1, 16, [.string ⟨#[]⟩]) := by kernel_rfl
theorem tab_desc12 : tab.desc 12 = Try.prog.underlying 12 := by kernel_rfl
theorem tab_info12 : tab.info 12 = some (1, 8, [.int .u64 0]) := by kernel_rfl
theorem tab_desc13 : tab.desc 13 = Try.prog.underlying 13 := by kernel_rfl
theorem tab_info13 : tab.info 13 = some (2, 24, [.string ⟨#[]⟩, .int .u64 0]) := by kernel_rfl
theorem tab_desc14 : tab.desc 14 = Try.prog.underlying 14 := by kernel_rfl
theorem tab_info14 : tab.info 14 = some (2, 24, [.string ⟨#[]⟩, .int .u64 0]) := by kernel_rfl
theorem tab_desc15 : tab.desc 15 = Try.prog.underlying 15 := by kernel_rfl
theorem tab_info15 : tab.info 15 = some (1, 8, [.pointer none]) := by kernel_rfl
theorem tab_desc16 : tab.desc 16 = Try.prog.underlying 16 := by kernel_rfl
theorem tab_info16 : tab.info 16 = some (1, 8, [.pointer none]) := by kernel_rfl
theorem tab_desc17 : tab.desc 17 = Try.prog.underlying 17 := by kernel_rfl
theorem tab_info17 : tab.info 17 = some (1, 8, [.pointer none]) := by kernel_rfl
theorem tab_desc18 : tab.desc 18 = Try.prog.underlying 18 := by kernel_rfl
theorem tab_info18 : tab.info 18 = some (1, 8, [.pointer none]) := by kernel_rfl
theorem tab_desc19 : tab.desc 19 = Try.prog.underlying 19 := by kernel_rfl
theorem tab_info19 : tab.info 19 = some (1, 8, [.pointer none]) := by kernel_rfl
theorem tab_desc20 : tab.desc 20 = Try.prog.underlying 20 := by kernel_rfl
theorem tab_info20 : tab.info 20 = some (1, 16, [.nilIface]) := by kernel_rfl
theorem tab_desc21 : tab.desc 21 = Try.prog.underlying 21 := by kernel_rfl
theorem tab_info21 : tab.info 21 = some (1, 4, [.int .i32 0]) := by kernel_rfl
theorem tab_desc22 : tab.desc 22 = Try.prog.underlying 22 := by kernel_rfl
theorem tab_info22 : tab.info 22 = some (2, 24, [.bool false, .string ⟨#[]⟩]) := by kernel_rfl
theorem tab_desc23 : tab.desc 23 = Try.prog.underlying 23 := by kernel_rfl
theorem tab_info23 : tab.info 23 = some (2, 24, [.bool false, .string ⟨#[]⟩]) := by kernel_rfl
theorem tab_desc24 : tab.desc 24 = Try.prog.underlying 24 := by kernel_rfl
theorem tab_info24 : tab.info 24 = some (8, 96, [.bool false, .string ⟨#[]⟩, .bool false, .string ⟨#[]⟩, .bool false, .string ⟨#[]⟩, .bool false, .string ⟨#[]⟩]) := by kernel_rfl
theorem tab_desc25 : tab.desc 25 = Try.prog.underlying 25 := by kernel_rfl
theorem tab_info25 : tab.info 25 = some (11, 136, [.string ⟨#[]⟩, .string ⟨#[]⟩, .int .i64 0, .bool false, .string ⟨#[]⟩, .bool false, .string ⟨#[]⟩, .bool false, .string ⟨#[]⟩, .bool false, .string ⟨#[]⟩]) := by kernel_rfl
theorem tab_desc26 : tab.desc 26 = Try.prog.underlying 26 := by kernel_rfl
theorem tab_info26 : tab.info 26 = some (11, 136, [.string ⟨#[]⟩, .string ⟨#[]⟩, .int .i64 0, .bool false, .string ⟨#[]⟩, .bool false, .string ⟨#[]⟩, .bool false, .string ⟨#[]⟩, .bool false, .string ⟨#[]⟩]) := by kernel_rfl
theorem tab_desc27 : tab.desc 27 = Try.prog.underlying 27 := by kernel_rfl
theorem tab_info27 : tab.info 27 = some (1, 8, [.nilFunc]) := by kernel_rfl
theorem tab_desc28 : tab.desc 28 = Try.prog.underlying 28 := by kernel_rfl
theorem tab_info28 : tab.info 28 = some (1, 8, [.nilFunc]) := by kernel_rfl
theorem tab_desc29 : tab.desc 29 = Try.prog.underlying 29 := by kernel_rfl
theorem tab_info29 : tab.info 29 = some (1, 8, [.int .i64 0]) := by kernel_rfl
theorem tab_desc30 : tab.desc 30 = Try.prog.underlying 30 := by kernel_rfl
theorem tab_info30 : tab.info 30 = some (1, 8, [.nilFunc]) := by kernel_rfl
theorem tab_desc31 : tab.desc 31 = Try.prog.underlying 31 := by kernel_rfl
theorem tab_info31 : tab.info 31 = some (1, 8, [.nilFunc]) := by kernel_rfl
theorem tab_desc32 : tab.desc 32 = Try.prog.underlying 32 := by kernel_rfl
theorem tab_info32 : tab.info 32 = some (1, 8, [.nilFunc]) := by kernel_rfl
theorem tab_desc33 : tab.desc 33 = Try.prog.underlying 33 := by kernel_rfl
theorem tab_info33 : tab.info 33 = some (1, 24, [.slice none 0 0]) := by kernel_rfl
theorem tab_desc34 : tab.desc 34 = Try.prog.underlying 34 := by kernel_rfl
theorem tab_info34 : tab.info 34 = some (1, 8, [.nilFunc]) := by kernel_rfl
theorem tab_desc35 : tab.desc 35 = Try.prog.underlying 35 := by kernel_rfl
theorem tab_info35 : tab.info 35 = some (1, 8, [.nilFunc]) := by kernel_rfl
theorem tab_desc36 : tab.desc 36 = Try.prog.underlying 36 := by kernel_rfl
theorem tab_info36 : tab.info 36 = some (1, 8, [.nilFunc]) := by kernel_rfl
theorem tab_desc37 : tab.desc 37 = Try.prog.underlying 37 := by kernel_rfl
theorem tab_info37 : tab.info 37 = some (1, 8, [.nilFunc]) := by kernel_rfl
theorem tab_desc38 : tab.desc 38 = Try.prog.underlying 38 := by kernel_rfl
theorem tab_info38 : tab.info 38 = some (1, 8, [.nilFunc]) := by kernel_rfl
theorem tab_desc39 : tab.desc 39 = Try.prog.underlying 39 := by kernel_rfl
theorem tab_info39 : tab.info 39 = some (1, 8, [.nilFunc]) := by kernel_rfl
theorem tab_desc40 : tab.desc 40 = Try.prog.underlying 40 := by kernel_rfl
theorem tab_info40 : tab.info 40 = some (1, 8, [.nilFunc]) := by kernel_rfl
theorem tab_desc41 : tab.desc 41 = Try.prog.underlying 41 := by kernel_rfl
theorem tab_info41 : tab.info 41 = some (1, 8, [.nilFunc]) := by kernel_rfl
theorem tab_desc42 : tab.desc 42 = Try.prog.underlying 42 := by kernel_rfl
theorem tab_desc43 : tab.desc 43 = Try.prog.underlying 43 := by kernel_rfl
theorem tab_info43 : tab.info 43 = some (1, 8, [.nilFunc]) := by kernel_rfl
theorem tab_desc44 : tab.desc 44 = Try.prog.underlying 44 := by kernel_rfl
theorem tab_info44 : tab.info 44 = some (1, 8, [.nilFunc]) := by kernel_rfl
theorem tab_desc45 : tab.desc 45 = Try.prog.underlying 45 := by kernel_rfl
theorem tab_info45 : tab.info 45 = some (1, 8, [.nilFunc]) := by kernel_rfl
theorem tab_desc46 : tab.desc 46 = Try.prog.underlying 46 := by kernel_rfl
theorem tab_info46 : tab.info 46 = some (1, 24, [.slice none 0 0]) := by kernel_rfl
theorem tab_desc47 : tab.desc 47 = Try.prog.underlying 47 := by kernel_rfl
theorem tab_info47 : tab.info 47 = some (1, 8, [.nilFunc]) := by kernel_rfl
theorem tab_desc48 : tab.desc 48 = Try.prog.underlying 48 := by kernel_rfl
theorem tab_info48 : tab.info 48 = some (1, 8, [.nilFunc]) := by kernel_rfl
theorem tab_desc49 : tab.desc 49 = Try.prog.underlying 49 := by kernel_rfl
theorem tab_info49 : tab.info 49 = some (1, 8, [.nilFunc]) := by kernel_rfl
theorem tab_desc50 : tab.desc 50 = Try.prog.underlying 50 := by kernel_rfl
theorem tab_info50 : tab.info 50 = some (1, 8, [.nilFunc]) := by kernel_rfl
theorem tab_desc51 : tab.desc 51 = Try.prog.underlying 51 := by kernel_rfl
theorem tab_info51 : tab.info 51 = some (1, 8, [.nilFunc]) := by kernel_rfl
theorem tab_desc52 : tab.desc 52 = Try.prog.underlying 52 := by kernel_rfl
theorem tab_info52 : tab.info 52 = some (1, 8, [.nilFunc]) := by kernel_rfl
theorem tab_desc53 : tab.desc 53 = Try.prog.underlying 53 := by kernel_rfl
theorem tab_info53 : tab.info 53 = some (1, 8, [.nilFunc]) := by kernel_rfl
theorem tab_desc54 : tab.desc 54 = Try.prog.underlying 54 := by kernel_rfl
theorem tab_info54 : tab.info 54 = some (1, 8, [.nilFunc]) := by kernel_rfl
theorem tab_desc55 : tab.desc 55 = Try.prog.underlying 55 := by kernel_rfl
theorem tab_info55 : tab.info 55 = some (1, 8, [.nilFunc]) := by kernel_rfl
theorem tab_desc56 : tab.desc 56 = Try.prog.underlying 56 := by kernel_rfl
theorem tab_desc57 : tab.desc 57 = Try.prog.underlying 57 := by kernel_rfl
theorem tab_info57 : tab.info 57 = some (1, 8, [.nilFunc]) := by kernel_rfl
theorem tab_desc58 : tab.desc 58 = Try.prog.underlying 58 := by kernel_rfl
theorem tab_info58 : tab.info 58 = some (1, 8, [.nilFunc]) := by kernel_rfl
theorem tab_desc59 : tab.desc 59 = Try.prog.underlying 59 := by kernel_rfl
theorem tab_info59 : tab.info 59 = some (1, 8, [.nilFunc]) := by kernel_rfl
theorem tab_desc60 : tab.desc 60 = Try.prog.underlying 60 := by kernel_rfl
theorem tab_info60 : tab.info 60 = some (1, 24, [.slice none 0 0]) := by kernel_rfl
theorem tab_desc61 : tab.desc 61 = Try.prog.underlying 61 := by kernel_rfl
theorem tab_info61 : tab.info 61 = some (1, 8, [.nilFunc]) := by kernel_rfl
theorem tab_desc62 : tab.desc 62 = Try.prog.underlying 62 := by kernel_rfl
theorem tab_info62 : tab.info 62 = some (1, 8, [.nilFunc]) := by kernel_rfl
theorem tab_desc63 : tab.desc 63 = Try.prog.underlying 63 := by kernel_rfl
theorem tab_info63 : tab.info 63 = some (1, 24, [.slice none 0 0]) := by kernel_rfl
theorem tab_desc64 : tab.desc 64 = Try.prog.underlying 64 := by kernel_rfl
theorem tab_info64 : tab.info 64 = some (1, 8, [.nilFunc]) := by kernel_rfl
theorem tab_desc65 : tab.desc 65 = Try.prog.underlying 65 := by kernel_rfl
theorem tab_info65 : tab.info 65 = some (1, 8, [.nilFunc]) := by kernel_rfl
theorem tab_desc66 : tab.desc 66 = Try.prog.underlying 66 := by kernel_rfl
theorem tab_info66 : tab.info 66 = some (1, 8, [.nilFunc]) := by kernel_rfl
theorem tab_desc67 : tab.desc 67 = Try.prog.underlying 67 := by kernel_rfl
theorem tab_info67 : tab.info 67 = some (1, 8, [.nilFunc]) := by kernel_rfl
theorem tab_desc68 : tab.desc 68 = Try.prog.underlying 68 := by kernel_rfl
theorem tab_info68 : tab.info 68 = some (1, 8, [.nilFunc]) := by kernel_rfl
theorem tab_desc69 : tab.desc 69 = Try.prog.underlying 69 := by kernel_rfl
theorem tab_info69 : tab.info 69 = some (1, 8, [.nilFunc]) := by kernel_rfl
theorem tab_desc70 : tab.desc 70 = Try.prog.underlying 70 := by kernel_rfl
theorem tab_info70 : tab.info 70 = some (1, 8, [.pointer none]) := by kernel_rfl
theorem tab_desc71 : tab.desc 71 = Try.prog.underlying 71 := by kernel_rfl
theorem tab_info71 : tab.info 71 = some (1, 24, [.slice none 0 0]) := by kernel_rfl
theorem tab_desc72 : tab.desc 72 = Try.prog.underlying 72 := by kernel_rfl
theorem tab_info72 : tab.info 72 = some (2, 32, [.pointer none, .slice none 0 0]) := by kernel_rfl
theorem tab_desc73 : tab.desc 73 = Try.prog.underlying 73 := by kernel_rfl
theorem tab_info73 : tab.info 73 = some (2, 32, [.pointer none, .slice none 0 0]) := by kernel_rfl
theorem tab_desc74 : tab.desc 74 = Try.prog.underlying 74 := by kernel_rfl
theorem tab_info74 : tab.info 74 = some (1, 8, [.nilFunc]) := by kernel_rfl
theorem tab_desc75 : tab.desc 75 = Try.prog.underlying 75 := by kernel_rfl
theorem tab_info75 : tab.info 75 = some (1, 16, [.nilIface]) := by kernel_rfl
theorem tab_desc76 : tab.desc 76 = Try.prog.underlying 76 := by kernel_rfl
theorem tab_info76 : tab.info 76 = some (1, 16, [.nilIface]) := by kernel_rfl
theorem tab_desc77 : tab.desc 77 = Try.prog.underlying 77 := by kernel_rfl
theorem tab_desc78 : tab.desc 78 = Try.prog.underlying 78 := by kernel_rfl
theorem tab_info78 : tab.info 78 = some (1, 8, [.nilFunc]) := by kernel_rfl
theorem tab_desc79 : tab.desc 79 = Try.prog.underlying 79 := by kernel_rfl
theorem tab_info79 : tab.info 79 = some (1, 8, [.nilFunc]) := by kernel_rfl
theorem tab_desc80 : tab.desc 80 = Try.prog.underlying 80 := by kernel_rfl
theorem tab_info80 : tab.info 80 = some (1, 8, [.nilFunc]) := by kernel_rfl
theorem tab_desc81 : tab.desc 81 = Try.prog.underlying 81 := by kernel_rfl
theorem tab_info81 : tab.info 81 = some (1, 8, [.nilFunc]) := by kernel_rfl
theorem tab_desc82 : tab.desc 82 = Try.prog.underlying 82 := by kernel_rfl
theorem tab_info82 : tab.info 82 = some (1, 8, [.int .u64 0]) := by kernel_rfl
theorem tab_desc83 : tab.desc 83 = Try.prog.underlying 83 := by kernel_rfl
theorem tab_info83 : tab.info 83 = some (1, 8, [.nilFunc]) := by kernel_rfl
theorem tab_desc84 : tab.desc 84 = Try.prog.underlying 84 := by kernel_rfl
theorem tab_info84 : tab.info 84 = some (1, 8, [.nilFunc]) := by kernel_rfl
theorem tab_desc85 : tab.desc 85 = Try.prog.underlying 85 := by kernel_rfl
theorem tab_info85 : tab.info 85 = some (1, 8, [.pointer none]) := by kernel_rfl
theorem tab_desc86 : tab.desc 86 = Try.prog.underlying 86 := by kernel_rfl
theorem tab_info86 : tab.info 86 = some (1, 8, [.nilFunc]) := by kernel_rfl
theorem tab_desc87 : tab.desc 87 = Try.prog.underlying 87 := by kernel_rfl
theorem tab_info87 : tab.info 87 = some (1, 8, [.pointer none]) := by kernel_rfl
theorem tab_desc88 : tab.desc 88 = Try.prog.underlying 88 := by kernel_rfl
theorem tab_info88 : tab.info 88 = some (1, 8, [.nilFunc]) := by kernel_rfl
theorem tab_desc89 : tab.desc 89 = Try.prog.underlying 89 := by kernel_rfl
theorem tab_info89 : tab.info 89 = some (1, 8, [.nilFunc]) := by kernel_rfl
theorem tab_desc90 : tab.desc 90 = Try.prog.underlying 90 := by kernel_rfl
theorem tab_info90 : tab.info 90 = some (4, 40, [.pointer none, .pointer none, .pointer none, .string ⟨#[]⟩]) := by kernel_rfl
theorem tab_desc91 : tab.desc 91 = Try.prog.underlying 91 := by kernel_rfl
theorem tab_info91 : tab.info 91 = some (4, 40, [.pointer none, .pointer none, .pointer none, .string ⟨#[]⟩]) := by kernel_rfl
theorem tab_desc92 : tab.desc 92 = Try.prog.underlying 92 := by kernel_rfl
theorem tab_info92 : tab.info 92 = some (0, 0, []) := by kernel_rfl
theorem tab_desc93 : tab.desc 93 = Try.prog.underlying 93 := by kernel_rfl
theorem tab_info93 : tab.info 93 = some (0, 0, []) := by kernel_rfl
theorem tab_desc94 : tab.desc 94 = Try.prog.underlying 94 := by kernel_rfl
theorem tab_info94 : tab.info 94 = some (0, 0, []) := by kernel_rfl
theorem tab_desc95 : tab.desc 95 = Try.prog.underlying 95 := by kernel_rfl
theorem tab_info95 : tab.info 95 = some (1, 8, [.nilFunc]) := by kernel_rfl
theorem tab_desc96 : tab.desc 96 = Try.prog.underlying 96 := by kernel_rfl
theorem tab_info96 : tab.info 96 = some (1, 4, [.int .u32 0]) := by kernel_rfl
theorem tab_desc97 : tab.desc 97 = Try.prog.underlying 97 := by kernel_rfl
theorem tab_info97 : tab.info 97 = some (1, 1, [.int .u8 0]) := by kernel_rfl
theorem tab_desc98 : tab.desc 98 = Try.prog.underlying 98 := by kernel_rfl
theorem tab_info98 : tab.info 98 = some (1, 1, [.int .u8 0]) := by kernel_rfl
theorem tab_desc99 : tab.desc 99 = Try.prog.underlying 99 := by kernel_rfl
theorem tab_info99 : tab.info 99 = some (1, 8, [.nilFunc]) := by kernel_rfl
theorem tab_desc100 : tab.desc 100 = Try.prog.underlying 100 := by kernel_rfl
theorem tab_info100 : tab.info 100 = some (1, 4, [.int .i32 0]) := by kernel_rfl
theorem tab_desc101 : tab.desc 101 = Try.prog.underlying 101 := by kernel_rfl
theorem tab_info101 : tab.info 101 = some (1, 4, [.int .i32 0]) := by kernel_rfl
theorem tab_desc102 : tab.desc 102 = Try.prog.underlying 102 := by kernel_rfl
theorem tab_info102 : tab.info 102 = some (11, 48, [.int .u64 0, .int .u64 0, .int .u32 0, .int .u8 0, .int .u8 0, .int .u8 0, .int .u8 0, .nilFunc, .pointer none, .int .i32 0, .int .i32 0]) := by kernel_rfl
theorem tab_desc103 : tab.desc 103 = Try.prog.underlying 103 := by kernel_rfl
theorem tab_info103 : tab.info 103 = some (11, 48, [.int .u64 0, .int .u64 0, .int .u32 0, .int .u8 0, .int .u8 0, .int .u8 0, .int .u8 0, .nilFunc, .pointer none, .int .i32 0, .int .i32 0]) := by kernel_rfl
theorem tab_fn2 : tab.fn 2 = some Try.f2 := by kernel_rfl
theorem tab_fn3 : tab.fn 3 = some Try.f3 := by kernel_rfl
theorem tab_fn4 : tab.fn 4 = some Try.f4 := by kernel_rfl
theorem tab_fn5 : tab.fn 5 = some Try.f5 := by kernel_rfl
theorem tab_fn6 : tab.fn 6 = some Try.f6 := by kernel_rfl
theorem tab_fn7 : tab.fn 7 = some Try.f7 := by kernel_rfl
theorem tab_fn8 : tab.fn 8 = some Try.f8 := by kernel_rfl
theorem tab_fn9 : tab.fn 9 = some Try.f9 := by kernel_rfl
theorem tab_fn10 : tab.fn 10 = some Try.f10 := by kernel_rfl
theorem tab_fn11 : tab.fn 11 = some Try.f11 := by kernel_rfl
theorem tab_fn12 : tab.fn 12 = some Try.f12 := by kernel_rfl
theorem tab_fn13 : tab.fn 13 = some Try.f13 := by kernel_rfl
theorem tab_fn14 : tab.fn 14 = some Try.f14 := by kernel_rfl
theorem tab_fn15 : tab.fn 15 = some Try.f15 := by kernel_rfl
theorem tab_fn16 : tab.fn 16 = some Try.f16 := by kernel_rfl
theorem tab_fn17 : tab.fn 17 = some Try.f17 := by kernel_rfl
theorem tab_fn18 : tab.fn 18 = some Try.f18 := by kernel_rfl
theorem tab_fn19 : tab.fn 19 = some Try.f19 := by kernel_rfl
theorem tab_fn20 : tab.fn 20 = some Try.f20 := by kernel_rfl
theorem tab_fn21 : tab.fn 21 = some Try.f21 := by kernel_rfl
theorem tab_fn22 : tab.fn 22 = some Try.f22 := by kernel_rfl
theorem tab_fn23 : tab.fn 23 = some Try.f23 := by kernel_rfl
theorem tab_fn24 : tab.fn 24 = some Try.f24 := by kernel_rfl
theorem tab_fn25 : tab.fn 25 = some Try.f25 := by kernel_rfl
theorem tab_fn26 : tab.fn 26 = some Try.f26 := by kernel_rfl
theorem tab_fn27 : tab.fn 27 = some Try.f27 := by kernel_rfl
theorem tab_fn28 : tab.fn 28 = some Try.f28 := by kernel_rfl
theorem tab_fn29 : tab.fn 29 = some Try.f29 := by kernel_rfl
theorem tab_fn30 : tab.fn 30 = some Try.f30 := by kernel_rfl
theorem tab_fn31 : tab.fn 31 = some Try.f31 := by kernel_rfl
theorem tab_fn32 : tab.fn 32 = some Try.f32 := by kernel_rfl
theorem tab_fn33 : tab.fn 33 = some Try.f33 := by kernel_rfl
theorem tab_fn34 : tab.fn 34 = some Try.f34 := by kernel_rfl
theorem tab_fn35 : tab.fn 35 = some Try.f35 := by kernel_rfl
theorem tab_fn36 : tab.fn 36 = some Try.f36 := by kernel_rfl
theorem tab_fn37 : tab.fn 37 = some Try.f37 := by kernel_rfl
theorem tab_fn38 : tab.fn 38 = some Try.f38 := by kernel_rfl
theorem tab_fn39 : tab.fn 39 = some Try.f39 := by kernel_rfl
theorem tab_fn40 : tab.fn 40 = some Try.f40 := by kernel_rfl
theorem tab_fn41 : tab.fn 41 = some Try.f41 := by kernel_rfl
theorem tab_fn42 : tab.fn 42 = some Try.f42 := by kernel_rfl
theorem tab_fn43 : tab.fn 43 = some Try.f43 := by kernel_rfl
theorem tab_fn44 : tab.fn 44 = some Try.f44 := by kernel_rfl
theorem tab_fn45 : tab.fn 45 = some Try.f45 := by kernel_rfl
theorem tab_fn46 : tab.fn 46 = some Try.f46 := by kernel_rfl
theorem tab_fn47 : tab.fn 47 = some Try.f47 := by kernel_rfl
theorem tab_fn48 : tab.fn 48 = some Try.f48 := by kernel_rfl
theorem tab_fn49 : tab.fn 49 = some Try.f49 := by kernel_rfl
theorem tab_fn50 : tab.fn 50 = some Try.f50 := by kernel_rfl
theorem tab_fn51 : tab.fn 51 = some Try.f51 := by kernel_rfl
theorem tab_fn52 : tab.fn 52 = some Try.f52 := by kernel_rfl
theorem tab_fn53 : tab.fn 53 = some Try.f53 := by kernel_rfl
theorem tab_fn54 : tab.fn 54 = some Try.f54 := by kernel_rfl
theorem tab_fn55 : tab.fn 55 = some Try.f55 := by kernel_rfl
theorem tab_fn56 : tab.fn 56 = some Try.f56 := by kernel_rfl
theorem tab_fn58 : tab.fn 58 = some Try.f58 := by kernel_rfl
theorem tab_fn59 : tab.fn 59 = some Try.f59 := by kernel_rfl
theorem tab_fn60 : tab.fn 60 = some Try.f60 := by kernel_rfl
theorem tab_fn61 : tab.fn 61 = some Try.f61 := by kernel_rfl
theorem tab_fn62 : tab.fn 62 = some Try.f62 := by kernel_rfl
theorem tab_fn63 : tab.fn 63 = some Try.f63 := by kernel_rfl
theorem tab_fn65 : tab.fn 65 = some Try.f65 := by kernel_rfl
theorem tab_fn66 : tab.fn 66 = some Try.f66 := by kernel_rfl
theorem tab_fn67 : tab.fn 67 = some Try.f67 := by kernel_rfl
theorem tab_fn68 : tab.fn 68 = some Try.f68 := by kernel_rfl
theorem tab_fn69 : tab.fn 69 = some Try.f69 := by kernel_rfl
theorem tab_fn70 : tab.fn 70 = some Try.f70 := by kernel_rfl
theorem tab_fn71 : tab.fn 71 = some Try.f71 := by kernel_rfl
theorem tab_fn72 : tab.fn 72 = some Try.f72 := by kernel_rfl
theorem tab_fn73 : tab.fn 73 = some Try.f73 := by kernel_rfl
theorem tab_fn74 : tab.fn 74 = some Try.f74 := by kernel_rfl
theorem tab_fn75 : tab.fn 75 = some Try.f75 := by kernel_rfl
theorem tab_fn76 : tab.fn 76 = some Try.f76 := by kernel_rfl
theorem tab_fn79 : tab.fn 79 = some Try.f79 := by kernel_rfl
end Go.Proofs.Ytpnnbjakbplgeaa
