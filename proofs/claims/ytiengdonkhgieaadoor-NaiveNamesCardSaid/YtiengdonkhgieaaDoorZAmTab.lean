/- The plain machine's tables over this seat's program. Written by a program (mktab.py). No condition. -/
import Derived.Test.YtiengdonkhgieaaDoorGTab
import Derived.Test.YtiengdonkhgieaaDoorProg
import Derived.KernelRfl
namespace Go.Proofs.YtiengdonkhgieaaDoor
open Go.Am
noncomputable def tyTab : List (List TypeInfo) := [[Tryd.t0, Tryd.t1, Tryd.t2, Tryd.t3, Tryd.t4, Tryd.t5, Tryd.t6, Tryd.t7, Tryd.t8, Tryd.t9, Tryd.t10, Tryd.t11, Tryd.t12, Tryd.t13, Tryd.t14, Tryd.t15],
  [Tryd.t16, Tryd.t17, Tryd.t18, Tryd.t19, Tryd.t20, Tryd.t21, Tryd.t22, Tryd.t23, Tryd.t24, Tryd.t25, Tryd.t26, Tryd.t27, Tryd.t28, Tryd.t29, Tryd.t30, Tryd.t31],
  [Tryd.t32, Tryd.t33, Tryd.t34, Tryd.t35, Tryd.t36, Tryd.t37, Tryd.t38, Tryd.t39, Tryd.t40, Tryd.t41, Tryd.t42, Tryd.t43, Tryd.t44, Tryd.t45, Tryd.t46, Tryd.t47],
  [Tryd.t48, Tryd.t49, Tryd.t50, Tryd.t51, Tryd.t52, Tryd.t53, Tryd.t54, Tryd.t55, Tryd.t56, Tryd.t57, Tryd.t58, Tryd.t59, Tryd.t60, Tryd.t61, Tryd.t62, Tryd.t63],
  [Tryd.t64, Tryd.t65, Tryd.t66, Tryd.t67, Tryd.t68, Tryd.t69, Tryd.t70, Tryd.t71, Tryd.t72, Tryd.t73, Tryd.t74, Tryd.t75, Tryd.t76, Tryd.t77, Tryd.t78, Tryd.t79],
  [Tryd.t80, Tryd.t81, Tryd.t82, Tryd.t83, Tryd.t84, Tryd.t85, Tryd.t86, Tryd.t87, Tryd.t88, Tryd.t89, Tryd.t90, Tryd.t91, Tryd.t92, Tryd.t93, Tryd.t94, Tryd.t95],
  [Tryd.t96, Tryd.t97, Tryd.t98, Tryd.t99, Tryd.t100, Tryd.t101, Tryd.t102, Tryd.t103, Tryd.t104, Tryd.t105, Tryd.t106, Tryd.t107, Tryd.t108, Tryd.t109, Tryd.t110, Tryd.t111],
  [Tryd.t112, Tryd.t113, Tryd.t114, Tryd.t115, Tryd.t116, Tryd.t117, Tryd.t118, Tryd.t119, Tryd.t120, Tryd.t121, Tryd.t122, Tryd.t123, Tryd.t124, Tryd.t125, Tryd.t126, Tryd.t127],
  [Tryd.t128, Tryd.t129, Tryd.t130, Tryd.t131, Tryd.t132, Tryd.t133, Tryd.t134, Tryd.t135, Tryd.t136, Tryd.t137, Tryd.t138, Tryd.t139, Tryd.t140, Tryd.t141, Tryd.t142, Tryd.t143],
  [Tryd.t144, Tryd.t145, Tryd.t146, Tryd.t147, Tryd.t148, Tryd.t149, Tryd.t150, Tryd.t151, Tryd.t152, Tryd.t153, Tryd.t154, Tryd.t155, Tryd.t156, Tryd.t157]]
def tyOks : List (List Bool) := [[false, true, true, true, true, true, true, true, true, true, true, true, true, true, true, true],
  [true, true, true, true, true, true, true, true, true, false, true, true, false, true, true, true],
  [true, true, true, true, true, true, true, true, true, true, true, true, true, true, true, true],
  [true, true, true, true, true, false, true, true, true, true, true, false, true, true, true, true],
  [true, true, true, false, true, true, true, true, true, true, true, true, true, true, true, true],
  [false, true, true, true, true, false, true, true, true, true, true, true, true, true, true, true],
  [true, true, true, true, true, true, true, true, true, true, true, true, true, true, true, true],
  [true, true, false, true, true, true, true, true, true, true, true, true, true, true, true, true],
  [true, true, true, true, true, true, true, true, true, true, true, true, true, true, true, true],
  [true, true, true, true, true, true, true, true, true, true, true, true, true, true]]
noncomputable def fnTab : List (List Func) := [[Tryd.f0, Tryd.f1, Tryd.f2, Tryd.f3, Tryd.f4, Tryd.f5, Tryd.f6, Tryd.f7, Tryd.f8, Tryd.f9, Tryd.f10, Tryd.f11, Tryd.f12, Tryd.f13, Tryd.f14, Tryd.f15],
  [Tryd.f16, Tryd.f17, Tryd.f18, Tryd.f19, Tryd.f20, Tryd.f21, Tryd.f22, Tryd.f23, Tryd.f24, Tryd.f25, Tryd.f26, Tryd.f27, Tryd.f28, Tryd.f29, Tryd.f30, Tryd.f31],
  [Tryd.f32, Tryd.f33, Tryd.f34, Tryd.f35, Tryd.f36, Tryd.f37, Tryd.f38, Tryd.f39, Tryd.f40, Tryd.f41, Tryd.f42, Tryd.f43, Tryd.f44, Tryd.f45, Tryd.f46, Tryd.f47],
  [Tryd.f48, Tryd.f49, Tryd.f50, Tryd.f51, Tryd.f52, Tryd.f53, Tryd.f54, Tryd.f55, Tryd.f56, Tryd.f57, Tryd.f58, Tryd.f59, Tryd.f60, Tryd.f61, Tryd.f62, Tryd.f63],
  [Tryd.f64, Tryd.f65, Tryd.f66, Tryd.f67, Tryd.f68, Tryd.f69, Tryd.f70, Tryd.f71, Tryd.f72, Tryd.f73, Tryd.f74, Tryd.f75, Tryd.f76, Tryd.f77, Tryd.f78, Tryd.f79],
  [Tryd.f80, Tryd.f81, Tryd.f82, Tryd.f83, Tryd.f84, Tryd.f85, Tryd.f86, Tryd.f87, Tryd.f88, Tryd.f89, Tryd.f90, Tryd.f91, Tryd.f92, Tryd.f93, Tryd.f94, Tryd.f95],
  [Tryd.f96, Tryd.f97, Tryd.f98, Tryd.f99, Tryd.f100, Tryd.f101, Tryd.f102, Tryd.f103, Tryd.f104, Tryd.f105, Tryd.f106, Tryd.f107, Tryd.f108, Tryd.f109, Tryd.f110, Tryd.f111],
  [Tryd.f112, Tryd.f113, Tryd.f114, Tryd.f115, Tryd.f116, Tryd.f117, Tryd.f118, Tryd.f119, Tryd.f120, Tryd.f121, Tryd.f122, Tryd.f123, Tryd.f124, Tryd.f125]]
def fnOks : List (List Bool) := [[false, false, true, true, true, true, true, true, true, true, true, true, true, true, true, true],
  [true, true, true, true, true, true, true, true, true, true, true, true, true, true, true, true],
  [true, true, true, true, true, true, true, true, true, true, true, true, true, true, true, true],
  [true, true, true, true, true, true, true, true, true, true, true, true, true, true, true, true],
  [true, true, true, true, true, true, true, true, true, true, true, true, true, true, true, true],
  [true, true, true, true, true, false, true, true, true, true, true, true, true, true, true, false],
  [false, false, true, true, true, false, false, false, false, false, false, false, false, false, false, false],
  [false, false, false, false, false, false, false, false, false, false, false, false, false, false]]
def cmpTys : List TypeId := [7, 8, 30, 31, 32, 33, 34, 52, 83, 84, 120, 127, 128, 137, 138, 140, 141]
noncomputable def tab : Tab := mkTab tyTab tyOks fnTab fnOks cmpTys [1]
theorem tab_types : Tryd.prog.types.toList = tyTab.flatten := by kernel_rfl
theorem tab_tyOks : Tryd.prog.types.toList.map tyOk = tyOks.flatten := by kernel_rfl
theorem tab_funcs : Tryd.prog.funcs.toList = fnTab.flatten := by kernel_rfl
theorem tab_fnOks : Tryd.prog.funcs.toList.map (fnOk [1]) = fnOks.flatten := by kernel_rfl
theorem tab_fits : tab.Fits Tryd.prog := mkTab_fits (show cmpTys.all (cmpOk Tryd.prog) = true by kernel_rfl) (by kernel_rfl) (by kernel_rfl) (by kernel_rfl) (by kernel_rfl) tab_types tab_tyOks tab_funcs tab_fnOks
theorem mixed : Tryd.prog.follows .mixedOrders = true := by kernel_rfl
theorem tab_desc0 : tab.desc 0 = Tryd.prog.underlying 0 := by kernel_rfl
theorem tab_desc1 : tab.desc 1 = Tryd.prog.underlying 1 := by kernel_rfl
theorem tab_info1 : tab.info 1 = some (1, 8, [.nilFunc]) := by kernel_rfl
theorem tab_desc2 : tab.desc 2 = Tryd.prog.underlying 2 := by kernel_rfl
theorem tab_info2 : tab.info 2 = some (1, 8, [.int .i64 0]) := by kernel_rfl
theorem tab_desc3 : tab.desc 3 = Tryd.prog.underlying 3 := by kernel_rfl
theorem tab_info3 : tab.info 3 = some (1, 8, [.int .i64 0]) := by kernel_rfl
theorem tab_desc4 : tab.desc 4 = Tryd.prog.underlying 4 := by kernel_rfl
theorem tab_info4 : tab.info 4 = some (1, 1, [.bool false]) := by kernel_rfl
theorem tab_desc5 : tab.desc 5 = Tryd.prog.underlying 5 := by kernel_rfl
theorem tab_info5 : tab.info 5 = some (1, 1, [.int .u8 0]) := by kernel_rfl
theorem tab_desc6 : tab.desc 6 = Tryd.prog.underlying 6 := by kernel_rfl
theorem tab_info6 : tab.info 6 = some (1, 1, [.int .u8 0]) := by kernel_rfl
theorem tab_desc7 : tab.desc 7 = Tryd.prog.underlying 7 := by kernel_rfl
theorem tab_info7 : tab.info 7 = some (4, 24, [.int .i64 0, .int .i64 0, .bool false, .int .u8 0]) := by kernel_rfl
theorem tab_desc8 : tab.desc 8 = Tryd.prog.underlying 8 := by kernel_rfl
theorem tab_info8 : tab.info 8 = some (4, 24, [.int .i64 0, .int .i64 0, .bool false, .int .u8 0]) := by kernel_rfl
theorem tab_desc9 : tab.desc 9 = Tryd.prog.underlying 9 := by kernel_rfl
theorem tab_info9 : tab.info 9 = some (1, 16, [.string ⟨#[]⟩]) := by kernel_rfl
theorem tab_desc10 : tab.desc 10 = Tryd.prog.underlying 10 := by kernel_rfl
theorem tab_info10 : tab.info 10 = some (1, 16, [.string ⟨#[]⟩]) := by kernel_rfl
theorem tab_desc11 : tab.desc 11 = Tryd.prog.underlying 11 := by kernel_rfl
theorem tab_info11 : tab.info 11 = some (1, 16, [.string ⟨#[]⟩]) := by kernel_rfl
theorem tab_desc12 : tab.desc 12 = Tryd.prog.underlying 12 := by kernel_rfl
theorem tab_info12 : tab.info 12 = some (1, 8, [.int .u64 0]) := by kernel_rfl
theorem tab_desc13 : tab.desc 13 = Tryd.prog.underlying 13 := by kernel_rfl
theorem tab_info13 : tab.info 13 = some (2, 24, [.string ⟨#[]⟩, .int .u64 0]) := by kernel_rfl
theorem tab_desc14 : tab.desc 14 = Tryd.prog.underlying 14 := by kernel_rfl
theorem tab_info14 : tab.info 14 = some (2, 24, [.string ⟨#[]⟩, .int .u64 0]) := by kernel_rfl
theorem tab_desc15 : tab.desc 15 = Tryd.prog.underlying 15 := by kernel_rfl
theorem tab_info15 : tab.info 15 = some (1, 8, [.pointer none]) := by kernel_rfl
theorem tab_desc16 : tab.desc 16 = Tryd.prog.underlying 16 := by kernel_rfl
theorem tab_info16 : tab.info 16 = some (1, 8, [.pointer none]) := by kernel_rfl
theorem tab_desc17 : tab.desc 17 = Tryd.prog.underlying 17 := by kernel_rfl
theorem tab_info17 : tab.info 17 = some (1, 8, [.pointer none]) := by kernel_rfl
theorem tab_desc18 : tab.desc 18 = Tryd.prog.underlying 18 := by kernel_rfl
theorem tab_info18 : tab.info 18 = some (1, 8, [.pointer none]) := by kernel_rfl
theorem tab_desc19 : tab.desc 19 = Tryd.prog.underlying 19 := by kernel_rfl
theorem tab_info19 : tab.info 19 = some (1, 8, [.pointer none]) := by kernel_rfl
theorem tab_desc20 : tab.desc 20 = Tryd.prog.underlying 20 := by kernel_rfl
theorem tab_info20 : tab.info 20 = some (1, 16, [.nilIface]) := by kernel_rfl
theorem tab_desc21 : tab.desc 21 = Tryd.prog.underlying 21 := by kernel_rfl
theorem tab_info21 : tab.info 21 = some (1, 4, [.int .i32 0]) := by kernel_rfl
theorem tab_desc22 : tab.desc 22 = Tryd.prog.underlying 22 := by kernel_rfl
theorem tab_info22 : tab.info 22 = some (1, 8, [.nilFunc]) := by kernel_rfl
theorem tab_desc23 : tab.desc 23 = Tryd.prog.underlying 23 := by kernel_rfl
theorem tab_info23 : tab.info 23 = some (1, 24, [.slice none 0 0]) := by kernel_rfl
theorem tab_desc24 : tab.desc 24 = Tryd.prog.underlying 24 := by kernel_rfl
theorem tab_info24 : tab.info 24 = some (1, 24, [.slice none 0 0]) := by kernel_rfl
theorem tab_desc25 : tab.desc 25 = Tryd.prog.underlying 25 := by kernel_rfl
theorem tab_desc26 : tab.desc 26 = Tryd.prog.underlying 26 := by kernel_rfl
theorem tab_info26 : tab.info 26 = some (1, 8, [.nilFunc]) := by kernel_rfl
theorem tab_desc27 : tab.desc 27 = Tryd.prog.underlying 27 := by kernel_rfl
theorem tab_info27 : tab.info 27 = some (1, 8, [.int .i64 0]) := by kernel_rfl
theorem tab_desc28 : tab.desc 28 = Tryd.prog.underlying 28 := by kernel_rfl
theorem tab_desc29 : tab.desc 29 = Tryd.prog.underlying 29 := by kernel_rfl
theorem tab_info29 : tab.info 29 = some (1, 8, [.nilFunc]) := by kernel_rfl
theorem tab_desc30 : tab.desc 30 = Tryd.prog.underlying 30 := by kernel_rfl
theorem tab_info30 : tab.info 30 = some (2, 24, [.bool false, .string ⟨#[]⟩]) := by kernel_rfl
theorem tab_desc31 : tab.desc 31 = Tryd.prog.underlying 31 := by kernel_rfl
theorem tab_info31 : tab.info 31 = some (2, 24, [.bool false, .string ⟨#[]⟩]) := by kernel_rfl
theorem tab_desc32 : tab.desc 32 = Tryd.prog.underlying 32 := by kernel_rfl
theorem tab_info32 : tab.info 32 = some (8, 96, [.bool false, .string ⟨#[]⟩, .bool false, .string ⟨#[]⟩, .bool false, .string ⟨#[]⟩, .bool false, .string ⟨#[]⟩]) := by kernel_rfl
theorem tab_desc33 : tab.desc 33 = Tryd.prog.underlying 33 := by kernel_rfl
theorem tab_info33 : tab.info 33 = some (11, 136, [.string ⟨#[]⟩, .string ⟨#[]⟩, .int .i64 0, .bool false, .string ⟨#[]⟩, .bool false, .string ⟨#[]⟩, .bool false, .string ⟨#[]⟩, .bool false, .string ⟨#[]⟩]) := by kernel_rfl
theorem tab_desc34 : tab.desc 34 = Tryd.prog.underlying 34 := by kernel_rfl
theorem tab_info34 : tab.info 34 = some (11, 136, [.string ⟨#[]⟩, .string ⟨#[]⟩, .int .i64 0, .bool false, .string ⟨#[]⟩, .bool false, .string ⟨#[]⟩, .bool false, .string ⟨#[]⟩, .bool false, .string ⟨#[]⟩]) := by kernel_rfl
theorem tab_desc35 : tab.desc 35 = Tryd.prog.underlying 35 := by kernel_rfl
theorem tab_info35 : tab.info 35 = some (1, 8, [.nilFunc]) := by kernel_rfl
theorem tab_desc36 : tab.desc 36 = Tryd.prog.underlying 36 := by kernel_rfl
theorem tab_info36 : tab.info 36 = some (12, 160, [.string ⟨#[]⟩, .string ⟨#[]⟩, .int .i64 0, .bool false, .string ⟨#[]⟩, .bool false, .string ⟨#[]⟩, .bool false, .string ⟨#[]⟩, .bool false, .string ⟨#[]⟩, .slice none 0 0]) := by kernel_rfl
theorem tab_desc37 : tab.desc 37 = Tryd.prog.underlying 37 := by kernel_rfl
theorem tab_info37 : tab.info 37 = some (12, 160, [.string ⟨#[]⟩, .string ⟨#[]⟩, .int .i64 0, .bool false, .string ⟨#[]⟩, .bool false, .string ⟨#[]⟩, .bool false, .string ⟨#[]⟩, .bool false, .string ⟨#[]⟩, .slice none 0 0]) := by kernel_rfl
theorem tab_desc38 : tab.desc 38 = Tryd.prog.underlying 38 := by kernel_rfl
theorem tab_info38 : tab.info 38 = some (1, 8, [.nilFunc]) := by kernel_rfl
theorem tab_desc39 : tab.desc 39 = Tryd.prog.underlying 39 := by kernel_rfl
theorem tab_info39 : tab.info 39 = some (1, 8, [.nilFunc]) := by kernel_rfl
theorem tab_desc40 : tab.desc 40 = Tryd.prog.underlying 40 := by kernel_rfl
theorem tab_info40 : tab.info 40 = some (1, 8, [.nilFunc]) := by kernel_rfl
theorem tab_desc41 : tab.desc 41 = Tryd.prog.underlying 41 := by kernel_rfl
theorem tab_info41 : tab.info 41 = some (1, 8, [.nilFunc]) := by kernel_rfl
theorem tab_desc42 : tab.desc 42 = Tryd.prog.underlying 42 := by kernel_rfl
theorem tab_info42 : tab.info 42 = some (1, 8, [.nilFunc]) := by kernel_rfl
theorem tab_desc43 : tab.desc 43 = Tryd.prog.underlying 43 := by kernel_rfl
theorem tab_info43 : tab.info 43 = some (1, 8, [.nilFunc]) := by kernel_rfl
theorem tab_desc44 : tab.desc 44 = Tryd.prog.underlying 44 := by kernel_rfl
theorem tab_info44 : tab.info 44 = some (1, 8, [.nilFunc]) := by kernel_rfl
theorem tab_desc45 : tab.desc 45 = Tryd.prog.underlying 45 := by kernel_rfl
theorem tab_info45 : tab.info 45 = some (1, 8, [.nilFunc]) := by kernel_rfl
theorem tab_desc46 : tab.desc 46 = Tryd.prog.underlying 46 := by kernel_rfl
theorem tab_info46 : tab.info 46 = some (1, 8, [.map none]) := by kernel_rfl
theorem tab_desc47 : tab.desc 47 = Tryd.prog.underlying 47 := by kernel_rfl
theorem tab_info47 : tab.info 47 = some (1, 8, [.nilFunc]) := by kernel_rfl
theorem tab_desc48 : tab.desc 48 = Tryd.prog.underlying 48 := by kernel_rfl
theorem tab_info48 : tab.info 48 = some (1, 8, [.nilFunc]) := by kernel_rfl
theorem tab_desc49 : tab.desc 49 = Tryd.prog.underlying 49 := by kernel_rfl
theorem tab_info49 : tab.info 49 = some (1, 8, [.nilFunc]) := by kernel_rfl
theorem tab_desc50 : tab.desc 50 = Tryd.prog.underlying 50 := by kernel_rfl
theorem tab_info50 : tab.info 50 = some (1, 24, [.slice none 0 0]) := by kernel_rfl
theorem tab_desc51 : tab.desc 51 = Tryd.prog.underlying 51 := by kernel_rfl
theorem tab_info51 : tab.info 51 = some (1, 8, [.nilFunc]) := by kernel_rfl
theorem tab_desc52 : tab.desc 52 = Tryd.prog.underlying 52 := by kernel_rfl
theorem tab_info52 : tab.info 52 = some (0, 0, []) := by kernel_rfl
theorem tab_desc53 : tab.desc 53 = Tryd.prog.underlying 53 := by kernel_rfl
theorem tab_desc54 : tab.desc 54 = Tryd.prog.underlying 54 := by kernel_rfl
theorem tab_info54 : tab.info 54 = some (1, 8, [.nilFunc]) := by kernel_rfl
theorem tab_desc55 : tab.desc 55 = Tryd.prog.underlying 55 := by kernel_rfl
theorem tab_info55 : tab.info 55 = some (1, 8, [.nilFunc]) := by kernel_rfl
theorem tab_desc56 : tab.desc 56 = Tryd.prog.underlying 56 := by kernel_rfl
theorem tab_info56 : tab.info 56 = some (1, 8, [.nilFunc]) := by kernel_rfl
theorem tab_desc57 : tab.desc 57 = Tryd.prog.underlying 57 := by kernel_rfl
theorem tab_info57 : tab.info 57 = some (1, 8, [.nilFunc]) := by kernel_rfl
theorem tab_desc58 : tab.desc 58 = Tryd.prog.underlying 58 := by kernel_rfl
theorem tab_info58 : tab.info 58 = some (1, 8, [.nilFunc]) := by kernel_rfl
theorem tab_desc59 : tab.desc 59 = Tryd.prog.underlying 59 := by kernel_rfl
theorem tab_desc60 : tab.desc 60 = Tryd.prog.underlying 60 := by kernel_rfl
theorem tab_info60 : tab.info 60 = some (1, 8, [.nilFunc]) := by kernel_rfl
theorem tab_desc61 : tab.desc 61 = Tryd.prog.underlying 61 := by kernel_rfl
theorem tab_info61 : tab.info 61 = some (1, 8, [.nilFunc]) := by kernel_rfl
theorem tab_desc62 : tab.desc 62 = Tryd.prog.underlying 62 := by kernel_rfl
theorem tab_info62 : tab.info 62 = some (1, 8, [.nilFunc]) := by kernel_rfl
theorem tab_desc63 : tab.desc 63 = Tryd.prog.underlying 63 := by kernel_rfl
theorem tab_info63 : tab.info 63 = some (1, 8, [.nilFunc]) := by kernel_rfl
theorem tab_desc64 : tab.desc 64 = Tryd.prog.underlying 64 := by kernel_rfl
theorem tab_info64 : tab.info 64 = some (1, 8, [.nilFunc]) := by kernel_rfl
theorem tab_desc65 : tab.desc 65 = Tryd.prog.underlying 65 := by kernel_rfl
theorem tab_info65 : tab.info 65 = some (1, 8, [.nilFunc]) := by kernel_rfl
theorem tab_desc66 : tab.desc 66 = Tryd.prog.underlying 66 := by kernel_rfl
theorem tab_info66 : tab.info 66 = some (1, 8, [.nilFunc]) := by kernel_rfl
theorem tab_desc67 : tab.desc 67 = Tryd.prog.underlying 67 := by kernel_rfl
theorem tab_desc68 : tab.desc 68 = Tryd.prog.underlying 68 := by kernel_rfl
theorem tab_info68 : tab.info 68 = some (1, 8, [.nilFunc]) := by kernel_rfl
theorem tab_desc69 : tab.desc 69 = Tryd.prog.underlying 69 := by kernel_rfl
theorem tab_info69 : tab.info 69 = some (1, 8, [.nilFunc]) := by kernel_rfl
theorem tab_desc70 : tab.desc 70 = Tryd.prog.underlying 70 := by kernel_rfl
theorem tab_info70 : tab.info 70 = some (1, 8, [.nilFunc]) := by kernel_rfl
theorem tab_desc71 : tab.desc 71 = Tryd.prog.underlying 71 := by kernel_rfl
theorem tab_info71 : tab.info 71 = some (1, 8, [.nilFunc]) := by kernel_rfl
theorem tab_desc72 : tab.desc 72 = Tryd.prog.underlying 72 := by kernel_rfl
theorem tab_info72 : tab.info 72 = some (1, 24, [.slice none 0 0]) := by kernel_rfl
theorem tab_desc73 : tab.desc 73 = Tryd.prog.underlying 73 := by kernel_rfl
theorem tab_info73 : tab.info 73 = some (1, 8, [.nilFunc]) := by kernel_rfl
theorem tab_desc74 : tab.desc 74 = Tryd.prog.underlying 74 := by kernel_rfl
theorem tab_info74 : tab.info 74 = some (1, 8, [.nilFunc]) := by kernel_rfl
theorem tab_desc75 : tab.desc 75 = Tryd.prog.underlying 75 := by kernel_rfl
theorem tab_info75 : tab.info 75 = some (1, 8, [.nilFunc]) := by kernel_rfl
theorem tab_desc76 : tab.desc 76 = Tryd.prog.underlying 76 := by kernel_rfl
theorem tab_info76 : tab.info 76 = some (1, 8, [.map none]) := by kernel_rfl
theorem tab_desc77 : tab.desc 77 = Tryd.prog.underlying 77 := by kernel_rfl
theorem tab_info77 : tab.info 77 = some (1, 24, [.slice none 0 0]) := by kernel_rfl
theorem tab_desc78 : tab.desc 78 = Tryd.prog.underlying 78 := by kernel_rfl
theorem tab_info78 : tab.info 78 = some (1, 8, [.nilFunc]) := by kernel_rfl
theorem tab_desc79 : tab.desc 79 = Tryd.prog.underlying 79 := by kernel_rfl
theorem tab_info79 : tab.info 79 = some (1, 8, [.nilFunc]) := by kernel_rfl
theorem tab_desc80 : tab.desc 80 = Tryd.prog.underlying 80 := by kernel_rfl
theorem tab_desc81 : tab.desc 81 = Tryd.prog.underlying 81 := by kernel_rfl
theorem tab_info81 : tab.info 81 = some (1, 8, [.nilFunc]) := by kernel_rfl
theorem tab_desc82 : tab.desc 82 = Tryd.prog.underlying 82 := by kernel_rfl
theorem tab_info82 : tab.info 82 = some (1, 8, [.nilFunc]) := by kernel_rfl
theorem tab_desc83 : tab.desc 83 = Tryd.prog.underlying 83 := by kernel_rfl
theorem tab_info83 : tab.info 83 = some (3, 40, [.string ⟨#[]⟩, .bool false, .string ⟨#[]⟩]) := by kernel_rfl
theorem tab_desc84 : tab.desc 84 = Tryd.prog.underlying 84 := by kernel_rfl
theorem tab_info84 : tab.info 84 = some (3, 40, [.string ⟨#[]⟩, .bool false, .string ⟨#[]⟩]) := by kernel_rfl
theorem tab_desc85 : tab.desc 85 = Tryd.prog.underlying 85 := by kernel_rfl
theorem tab_desc86 : tab.desc 86 = Tryd.prog.underlying 86 := by kernel_rfl
theorem tab_info86 : tab.info 86 = some (1, 8, [.nilFunc]) := by kernel_rfl
theorem tab_desc87 : tab.desc 87 = Tryd.prog.underlying 87 := by kernel_rfl
theorem tab_info87 : tab.info 87 = some (1, 8, [.nilFunc]) := by kernel_rfl
theorem tab_desc88 : tab.desc 88 = Tryd.prog.underlying 88 := by kernel_rfl
theorem tab_info88 : tab.info 88 = some (1, 8, [.nilFunc]) := by kernel_rfl
theorem tab_desc89 : tab.desc 89 = Tryd.prog.underlying 89 := by kernel_rfl
theorem tab_info89 : tab.info 89 = some (1, 8, [.nilFunc]) := by kernel_rfl
theorem tab_desc90 : tab.desc 90 = Tryd.prog.underlying 90 := by kernel_rfl
theorem tab_info90 : tab.info 90 = some (1, 8, [.nilFunc]) := by kernel_rfl
theorem tab_desc91 : tab.desc 91 = Tryd.prog.underlying 91 := by kernel_rfl
theorem tab_info91 : tab.info 91 = some (1, 8, [.nilFunc]) := by kernel_rfl
theorem tab_desc92 : tab.desc 92 = Tryd.prog.underlying 92 := by kernel_rfl
theorem tab_info92 : tab.info 92 = some (1, 8, [.nilFunc]) := by kernel_rfl
theorem tab_desc93 : tab.desc 93 = Tryd.prog.underlying 93 := by kernel_rfl
theorem tab_info93 : tab.info 93 = some (1, 8, [.nilFunc]) := by kernel_rfl
theorem tab_desc94 : tab.desc 94 = Tryd.prog.underlying 94 := by kernel_rfl
theorem tab_info94 : tab.info 94 = some (1, 8, [.nilFunc]) := by kernel_rfl
theorem tab_desc95 : tab.desc 95 = Tryd.prog.underlying 95 := by kernel_rfl
theorem tab_info95 : tab.info 95 = some (1, 8, [.nilFunc]) := by kernel_rfl
theorem tab_desc96 : tab.desc 96 = Tryd.prog.underlying 96 := by kernel_rfl
theorem tab_info96 : tab.info 96 = some (1, 8, [.nilFunc]) := by kernel_rfl
theorem tab_desc97 : tab.desc 97 = Tryd.prog.underlying 97 := by kernel_rfl
theorem tab_info97 : tab.info 97 = some (1, 8, [.nilFunc]) := by kernel_rfl
theorem tab_desc98 : tab.desc 98 = Tryd.prog.underlying 98 := by kernel_rfl
theorem tab_info98 : tab.info 98 = some (1, 8, [.nilFunc]) := by kernel_rfl
theorem tab_desc99 : tab.desc 99 = Tryd.prog.underlying 99 := by kernel_rfl
theorem tab_info99 : tab.info 99 = some (1, 8, [.nilFunc]) := by kernel_rfl
theorem tab_desc100 : tab.desc 100 = Tryd.prog.underlying 100 := by kernel_rfl
theorem tab_info100 : tab.info 100 = some (1, 8, [.nilFunc]) := by kernel_rfl
theorem tab_desc101 : tab.desc 101 = Tryd.prog.underlying 101 := by kernel_rfl
theorem tab_info101 : tab.info 101 = some (1, 8, [.nilFunc]) := by kernel_rfl
theorem tab_desc102 : tab.desc 102 = Tryd.prog.underlying 102 := by kernel_rfl
theorem tab_info102 : tab.info 102 = some (1, 8, [.nilFunc]) := by kernel_rfl
theorem tab_desc103 : tab.desc 103 = Tryd.prog.underlying 103 := by kernel_rfl
theorem tab_info103 : tab.info 103 = some (1, 8, [.nilFunc]) := by kernel_rfl
theorem tab_desc104 : tab.desc 104 = Tryd.prog.underlying 104 := by kernel_rfl
theorem tab_info104 : tab.info 104 = some (1, 8, [.int .u64 0]) := by kernel_rfl
theorem tab_desc105 : tab.desc 105 = Tryd.prog.underlying 105 := by kernel_rfl
theorem tab_info105 : tab.info 105 = some (1, 8, [.nilFunc]) := by kernel_rfl
theorem tab_desc106 : tab.desc 106 = Tryd.prog.underlying 106 := by kernel_rfl
theorem tab_info106 : tab.info 106 = some (1, 8, [.nilFunc]) := by kernel_rfl
theorem tab_desc107 : tab.desc 107 = Tryd.prog.underlying 107 := by kernel_rfl
theorem tab_info107 : tab.info 107 = some (1, 8, [.pointer none]) := by kernel_rfl
theorem tab_desc108 : tab.desc 108 = Tryd.prog.underlying 108 := by kernel_rfl
theorem tab_info108 : tab.info 108 = some (1, 24, [.slice none 0 0]) := by kernel_rfl
theorem tab_desc109 : tab.desc 109 = Tryd.prog.underlying 109 := by kernel_rfl
theorem tab_info109 : tab.info 109 = some (2, 32, [.pointer none, .slice none 0 0]) := by kernel_rfl
theorem tab_desc110 : tab.desc 110 = Tryd.prog.underlying 110 := by kernel_rfl
theorem tab_info110 : tab.info 110 = some (2, 32, [.pointer none, .slice none 0 0]) := by kernel_rfl
theorem tab_desc111 : tab.desc 111 = Tryd.prog.underlying 111 := by kernel_rfl
theorem tab_info111 : tab.info 111 = some (1, 8, [.nilFunc]) := by kernel_rfl
theorem tab_desc112 : tab.desc 112 = Tryd.prog.underlying 112 := by kernel_rfl
theorem tab_info112 : tab.info 112 = some (1, 16, [.nilIface]) := by kernel_rfl
theorem tab_desc113 : tab.desc 113 = Tryd.prog.underlying 113 := by kernel_rfl
theorem tab_info113 : tab.info 113 = some (1, 16, [.nilIface]) := by kernel_rfl
theorem tab_desc114 : tab.desc 114 = Tryd.prog.underlying 114 := by kernel_rfl
theorem tab_desc115 : tab.desc 115 = Tryd.prog.underlying 115 := by kernel_rfl
theorem tab_info115 : tab.info 115 = some (1, 8, [.nilFunc]) := by kernel_rfl
theorem tab_desc116 : tab.desc 116 = Tryd.prog.underlying 116 := by kernel_rfl
theorem tab_info116 : tab.info 116 = some (1, 8, [.nilFunc]) := by kernel_rfl
theorem tab_desc117 : tab.desc 117 = Tryd.prog.underlying 117 := by kernel_rfl
theorem tab_info117 : tab.info 117 = some (1, 8, [.nilFunc]) := by kernel_rfl
theorem tab_desc118 : tab.desc 118 = Tryd.prog.underlying 118 := by kernel_rfl
theorem tab_info118 : tab.info 118 = some (1, 8, [.nilFunc]) := by kernel_rfl
theorem tab_desc119 : tab.desc 119 = Tryd.prog.underlying 119 := by kernel_rfl
theorem tab_info119 : tab.info 119 = some (1, 8, [.pointer none]) := by kernel_rfl
theorem tab_desc120 : tab.desc 120 = Tryd.prog.underlying 120 := by kernel_rfl
theorem tab_info120 : tab.info 120 = some (256, 256, [.int .u8 0, .int .u8 0, .int .u8 0, .int .u8 0, .int .u8 0, .int .u8 0, .int .u8 0, .int .u8 0, .int .u8 0, .int .u8 0, .int .u8 0, .int .u8 0, .int .u8 0, .int .u8 0, .int .u8 0, .int .u8 0, .int .u8 0, .int .u8 0, .int .u8 0, .int .u8 0, .int .u8 0, .int .u8 0, .int .u8 0, .int .u8 0, .int .u8 0, .int .u8 0, .int .u8 0, .int .u8 0, .int .u8 0, .int .u8 0, .int .u8 0, .int .u8 0, .int .u8 0, .int .u8 0, .int .u8 0, .int .u8 0, .int .u8 0, .int .u8 0, .int .u8 0, .int .u8 0, .int .u8 0, .int .u8 0, .int .u8 0, .int .u8 0, .int .u8 0, .int .u8 0, .int .u8 0, .int .u8 0, .int .u8 0, .int .u8 0, .int .u8 0, .int .u8 0, .int .u8 0, .int .u8 0, .int .u8 0, .int .u8 0, .int .u8 0, .int .u8 0, .int .u8 0, .int .u8 0, .int .u8 0, .int .u8 0, .int .u8 0, .int .u8 0, .int .u8 0, .int .u8 0, .int .u8 0, .int .u8 0, .int .u8 0, .int .u8 0, .int .u8 0, .int .u8 0, .int .u8 0, .int .u8 0, .int .u8 0, .int .u8 0, .int .u8 0, .int .u8 0, .int .u8 0, .int .u8 0, .int .u8 0, .int .u8 0, .int .u8 0, .int .u8 0, .int .u8 0, .int .u8 0, .int .u8 0, .int .u8 0, .int .u8 0, .int .u8 0, .int .u8 0, .int .u8 0, .int .u8 0, .int .u8 0, .int .u8 0, .int .u8 0, .int .u8 0, .int .u8 0, .int .u8 0, .int .u8 0, .int .u8 0, .int .u8 0, .int .u8 0, .int .u8 0, .int .u8 0, .int .u8 0, .int .u8 0, .int .u8 0, .int .u8 0, .int .u8 0, .int .u8 0, .int .u8 0, .int .u8 0, .int .u8 0, .int .u8 0, .int .u8 0, .int .u8 0, .int .u8 0, .int .u8 0, .int .u8 0, .int .u8 0, .int .u8 0, .int .u8 0, .int .u8 0, .int .u8 0, .int .u8 0, .int .u8 0, .int .u8 0, .int .u8 0, .int .u8 0, .int .u8 0, .int .u8 0, .int .u8 0, .int .u8 0, .int .u8 0, .int .u8 0, .int .u8 0, .int .u8 0, .int .u8 0, .int .u8 0, .int .u8 0, .int .u8 0, .int .u8 0, .int .u8 0, .int .u8 0, .int .u8 0, .int .u8 0, .int .u8 0, .int .u8 0, .int .u8 0, .int .u8 0, .int .u8 0, .int .u8 0, .int .u8 0, .int .u8 0, .int .u8 0, .int .u8 0, .int .u8 0, .int .u8 0, .int .u8 0, .int .u8 0, .int .u8 0, .int .u8 0, .int .u8 0, .int .u8 0, .int .u8 0, .int .u8 0, .int .u8 0, .int .u8 0, .int .u8 0, .int .u8 0, .int .u8 0, .int .u8 0, .int .u8 0, .int .u8 0, .int .u8 0, .int .u8 0, .int .u8 0, .int .u8 0, .int .u8 0, .int .u8 0, .int .u8 0, .int .u8 0, .int .u8 0, .int .u8 0, .int .u8 0, .int .u8 0, .int .u8 0, .int .u8 0, .int .u8 0, .int .u8 0, .int .u8 0, .int .u8 0, .int .u8 0, .int .u8 0, .int .u8 0, .int .u8 0, .int .u8 0, .int .u8 0, .int .u8 0, .int .u8 0, .int .u8 0, .int .u8 0, .int .u8 0, .int .u8 0, .int .u8 0, .int .u8 0, .int .u8 0, .int .u8 0, .int .u8 0, .int .u8 0, .int .u8 0, .int .u8 0, .int .u8 0, .int .u8 0, .int .u8 0, .int .u8 0, .int .u8 0, .int .u8 0, .int .u8 0, .int .u8 0, .int .u8 0, .int .u8 0, .int .u8 0, .int .u8 0, .int .u8 0, .int .u8 0, .int .u8 0, .int .u8 0, .int .u8 0, .int .u8 0, .int .u8 0, .int .u8 0, .int .u8 0, .int .u8 0, .int .u8 0, .int .u8 0, .int .u8 0, .int .u8 0, .int .u8 0, .int .u8 0, .int .u8 0, .int .u8 0, .int .u8 0, .int .u8 0, .int .u8 0, .int .u8 0, .int .u8 0, .int .u8 0, .int .u8 0, .int .u8 0, .int .u8 0, .int .u8 0, .int .u8 0, .int .u8 0, .int .u8 0]) := by kernel_rfl
theorem tab_desc121 : tab.desc 121 = Tryd.prog.underlying 121 := by kernel_rfl
theorem tab_info121 : tab.info 121 = some (1, 8, [.nilFunc]) := by kernel_rfl
theorem tab_desc122 : tab.desc 122 = Tryd.prog.underlying 122 := by kernel_rfl
theorem tab_info122 : tab.info 122 = some (1, 8, [.nilFunc]) := by kernel_rfl
theorem tab_desc123 : tab.desc 123 = Tryd.prog.underlying 123 := by kernel_rfl
theorem tab_info123 : tab.info 123 = some (1, 8, [.pointer none]) := by kernel_rfl
theorem tab_desc124 : tab.desc 124 = Tryd.prog.underlying 124 := by kernel_rfl
theorem tab_info124 : tab.info 124 = some (1, 8, [.nilFunc]) := by kernel_rfl
theorem tab_desc125 : tab.desc 125 = Tryd.prog.underlying 125 := by kernel_rfl
theorem tab_info125 : tab.info 125 = some (1, 8, [.nilFunc]) := by kernel_rfl
theorem tab_desc126 : tab.desc 126 = Tryd.prog.underlying 126 := by kernel_rfl
theorem tab_info126 : tab.info 126 = some (1, 24, [.slice none 0 0]) := by kernel_rfl
theorem tab_desc127 : tab.desc 127 = Tryd.prog.underlying 127 := by kernel_rfl
theorem tab_info127 : tab.info 127 = some (2, 16, [.int .i64 0, .int .i64 0]) := by kernel_rfl
theorem tab_desc128 : tab.desc 128 = Tryd.prog.underlying 128 := by kernel_rfl
theorem tab_info128 : tab.info 128 = some (2, 16, [.int .i64 0, .int .i64 0]) := by kernel_rfl
theorem tab_desc129 : tab.desc 129 = Tryd.prog.underlying 129 := by kernel_rfl
theorem tab_info129 : tab.info 129 = some (1, 4, [.int .u32 0]) := by kernel_rfl
theorem tab_desc130 : tab.desc 130 = Tryd.prog.underlying 130 := by kernel_rfl
theorem tab_info130 : tab.info 130 = some (1, 8, [.nilFunc]) := by kernel_rfl
theorem tab_desc131 : tab.desc 131 = Tryd.prog.underlying 131 := by kernel_rfl
theorem tab_info131 : tab.info 131 = some (1, 8, [.pointer none]) := by kernel_rfl
theorem tab_desc132 : tab.desc 132 = Tryd.prog.underlying 132 := by kernel_rfl
theorem tab_info132 : tab.info 132 = some (1, 24, [.slice none 0 0]) := by kernel_rfl
theorem tab_desc133 : tab.desc 133 = Tryd.prog.underlying 133 := by kernel_rfl
theorem tab_info133 : tab.info 133 = some (1, 24, [.slice none 0 0]) := by kernel_rfl
theorem tab_desc134 : tab.desc 134 = Tryd.prog.underlying 134 := by kernel_rfl
theorem tab_info134 : tab.info 134 = some (3, 56, [.slice none 0 0, .slice none 0 0, .int .i64 0]) := by kernel_rfl
theorem tab_desc135 : tab.desc 135 = Tryd.prog.underlying 135 := by kernel_rfl
theorem tab_info135 : tab.info 135 = some (3, 56, [.slice none 0 0, .slice none 0 0, .int .i64 0]) := by kernel_rfl
theorem tab_desc136 : tab.desc 136 = Tryd.prog.underlying 136 := by kernel_rfl
theorem tab_info136 : tab.info 136 = some (1, 2, [.int .u16 0]) := by kernel_rfl
theorem tab_desc137 : tab.desc 137 = Tryd.prog.underlying 137 := by kernel_rfl
theorem tab_info137 : tab.info 137 = some (3, 6, [.int .u16 0, .int .u16 0, .int .u16 0]) := by kernel_rfl
theorem tab_desc138 : tab.desc 138 = Tryd.prog.underlying 138 := by kernel_rfl
theorem tab_info138 : tab.info 138 = some (3, 6, [.int .u16 0, .int .u16 0, .int .u16 0]) := by kernel_rfl
theorem tab_desc139 : tab.desc 139 = Tryd.prog.underlying 139 := by kernel_rfl
theorem tab_info139 : tab.info 139 = some (1, 8, [.nilFunc]) := by kernel_rfl
theorem tab_desc140 : tab.desc 140 = Tryd.prog.underlying 140 := by kernel_rfl
theorem tab_info140 : tab.info 140 = some (3, 12, [.int .u32 0, .int .u32 0, .int .u32 0]) := by kernel_rfl
theorem tab_desc141 : tab.desc 141 = Tryd.prog.underlying 141 := by kernel_rfl
theorem tab_info141 : tab.info 141 = some (3, 12, [.int .u32 0, .int .u32 0, .int .u32 0]) := by kernel_rfl
theorem tab_desc142 : tab.desc 142 = Tryd.prog.underlying 142 := by kernel_rfl
theorem tab_info142 : tab.info 142 = some (1, 8, [.nilFunc]) := by kernel_rfl
theorem tab_desc143 : tab.desc 143 = Tryd.prog.underlying 143 := by kernel_rfl
theorem tab_info143 : tab.info 143 = some (1, 8, [.pointer none]) := by kernel_rfl
theorem tab_desc144 : tab.desc 144 = Tryd.prog.underlying 144 := by kernel_rfl
theorem tab_info144 : tab.info 144 = some (1, 8, [.pointer none]) := by kernel_rfl
theorem tab_desc145 : tab.desc 145 = Tryd.prog.underlying 145 := by kernel_rfl
theorem tab_info145 : tab.info 145 = some (4, 40, [.pointer none, .pointer none, .pointer none, .string ⟨#[]⟩]) := by kernel_rfl
theorem tab_desc146 : tab.desc 146 = Tryd.prog.underlying 146 := by kernel_rfl
theorem tab_info146 : tab.info 146 = some (4, 40, [.pointer none, .pointer none, .pointer none, .string ⟨#[]⟩]) := by kernel_rfl
theorem tab_desc147 : tab.desc 147 = Tryd.prog.underlying 147 := by kernel_rfl
theorem tab_info147 : tab.info 147 = some (0, 0, []) := by kernel_rfl
theorem tab_desc148 : tab.desc 148 = Tryd.prog.underlying 148 := by kernel_rfl
theorem tab_info148 : tab.info 148 = some (0, 0, []) := by kernel_rfl
theorem tab_desc149 : tab.desc 149 = Tryd.prog.underlying 149 := by kernel_rfl
theorem tab_info149 : tab.info 149 = some (0, 0, []) := by kernel_rfl
theorem tab_desc150 : tab.desc 150 = Tryd.prog.underlying 150 := by kernel_rfl
theorem tab_info150 : tab.info 150 = some (1, 8, [.nilFunc]) := by kernel_rfl
theorem tab_desc151 : tab.desc 151 = Tryd.prog.underlying 151 := by kernel_rfl
theorem tab_info151 : tab.info 151 = some (1, 1, [.int .u8 0]) := by kernel_rfl
theorem tab_desc152 : tab.desc 152 = Tryd.prog.underlying 152 := by kernel_rfl
theorem tab_info152 : tab.info 152 = some (1, 1, [.int .u8 0]) := by kernel_rfl
theorem tab_desc153 : tab.desc 153 = Tryd.prog.underlying 153 := by kernel_rfl
theorem tab_info153 : tab.info 153 = some (1, 8, [.nilFunc]) := by kernel_rfl
theorem tab_desc154 : tab.desc 154 = Tryd.prog.underlying 154 := by kernel_rfl
theorem tab_info154 : tab.info 154 = some (1, 4, [.int .i32 0]) := by kernel_rfl
theorem tab_desc155 : tab.desc 155 = Tryd.prog.underlying 155 := by kernel_rfl
theorem tab_info155 : tab.info 155 = some (1, 4, [.int .i32 0]) := by kernel_rfl
theorem tab_desc156 : tab.desc 156 = Tryd.prog.underlying 156 := by kernel_rfl
theorem tab_info156 : tab.info 156 = some (11, 48, [.int .u64 0, .int .u64 0, .int .u32 0, .int .u8 0, .int .u8 0, .int .u8 0, .int .u8 0, .nilFunc, .pointer none, .int .i32 0, .int .i32 0]) := by kernel_rfl
theorem tab_desc157 : tab.desc 157 = Tryd.prog.underlying 157 := by kernel_rfl
theorem tab_info157 : tab.info 157 = some (11, 48, [.int .u64 0, .int .u64 0, .int .u32 0, .int .u8 0, .int .u8 0, .int .u8 0, .int .u8 0, .nilFunc, .pointer none, .int .i32 0, .int .i32 0]) := by kernel_rfl
theorem tab_fn2 : tab.fn 2 = some Tryd.f2 := by kernel_rfl
theorem tab_fn3 : tab.fn 3 = some Tryd.f3 := by kernel_rfl
theorem tab_fn4 : tab.fn 4 = some Tryd.f4 := by kernel_rfl
theorem tab_fn5 : tab.fn 5 = some Tryd.f5 := by kernel_rfl
theorem tab_fn6 : tab.fn 6 = some Tryd.f6 := by kernel_rfl
theorem tab_fn7 : tab.fn 7 = some Tryd.f7 := by kernel_rfl
theorem tab_fn8 : tab.fn 8 = some Tryd.f8 := by kernel_rfl
theorem tab_fn9 : tab.fn 9 = some Tryd.f9 := by kernel_rfl
theorem tab_fn10 : tab.fn 10 = some Tryd.f10 := by kernel_rfl
theorem tab_fn11 : tab.fn 11 = some Tryd.f11 := by kernel_rfl
theorem tab_fn12 : tab.fn 12 = some Tryd.f12 := by kernel_rfl
theorem tab_fn13 : tab.fn 13 = some Tryd.f13 := by kernel_rfl
theorem tab_fn14 : tab.fn 14 = some Tryd.f14 := by kernel_rfl
theorem tab_fn15 : tab.fn 15 = some Tryd.f15 := by kernel_rfl
theorem tab_fn16 : tab.fn 16 = some Tryd.f16 := by kernel_rfl
theorem tab_fn17 : tab.fn 17 = some Tryd.f17 := by kernel_rfl
theorem tab_fn18 : tab.fn 18 = some Tryd.f18 := by kernel_rfl
theorem tab_fn19 : tab.fn 19 = some Tryd.f19 := by kernel_rfl
theorem tab_fn20 : tab.fn 20 = some Tryd.f20 := by kernel_rfl
theorem tab_fn21 : tab.fn 21 = some Tryd.f21 := by kernel_rfl
theorem tab_fn22 : tab.fn 22 = some Tryd.f22 := by kernel_rfl
theorem tab_fn23 : tab.fn 23 = some Tryd.f23 := by kernel_rfl
theorem tab_fn24 : tab.fn 24 = some Tryd.f24 := by kernel_rfl
theorem tab_fn25 : tab.fn 25 = some Tryd.f25 := by kernel_rfl
theorem tab_fn26 : tab.fn 26 = some Tryd.f26 := by kernel_rfl
theorem tab_fn27 : tab.fn 27 = some Tryd.f27 := by kernel_rfl
theorem tab_fn28 : tab.fn 28 = some Tryd.f28 := by kernel_rfl
theorem tab_fn29 : tab.fn 29 = some Tryd.f29 := by kernel_rfl
theorem tab_fn30 : tab.fn 30 = some Tryd.f30 := by kernel_rfl
theorem tab_fn31 : tab.fn 31 = some Tryd.f31 := by kernel_rfl
theorem tab_fn32 : tab.fn 32 = some Tryd.f32 := by kernel_rfl
theorem tab_fn33 : tab.fn 33 = some Tryd.f33 := by kernel_rfl
theorem tab_fn34 : tab.fn 34 = some Tryd.f34 := by kernel_rfl
theorem tab_fn35 : tab.fn 35 = some Tryd.f35 := by kernel_rfl
theorem tab_fn36 : tab.fn 36 = some Tryd.f36 := by kernel_rfl
theorem tab_fn37 : tab.fn 37 = some Tryd.f37 := by kernel_rfl
theorem tab_fn38 : tab.fn 38 = some Tryd.f38 := by kernel_rfl
theorem tab_fn39 : tab.fn 39 = some Tryd.f39 := by kernel_rfl
theorem tab_fn40 : tab.fn 40 = some Tryd.f40 := by kernel_rfl
theorem tab_fn41 : tab.fn 41 = some Tryd.f41 := by kernel_rfl
theorem tab_fn42 : tab.fn 42 = some Tryd.f42 := by kernel_rfl
theorem tab_fn43 : tab.fn 43 = some Tryd.f43 := by kernel_rfl
theorem tab_fn44 : tab.fn 44 = some Tryd.f44 := by kernel_rfl
theorem tab_fn45 : tab.fn 45 = some Tryd.f45 := by kernel_rfl
theorem tab_fn46 : tab.fn 46 = some Tryd.f46 := by kernel_rfl
theorem tab_fn47 : tab.fn 47 = some Tryd.f47 := by kernel_rfl
theorem tab_fn48 : tab.fn 48 = some Tryd.f48 := by kernel_rfl
theorem tab_fn49 : tab.fn 49 = some Tryd.f49 := by kernel_rfl
theorem tab_fn50 : tab.fn 50 = some Tryd.f50 := by kernel_rfl
theorem tab_fn51 : tab.fn 51 = some Tryd.f51 := by kernel_rfl
theorem tab_fn52 : tab.fn 52 = some Tryd.f52 := by kernel_rfl
theorem tab_fn53 : tab.fn 53 = some Tryd.f53 := by kernel_rfl
theorem tab_fn54 : tab.fn 54 = some Tryd.f54 := by kernel_rfl
theorem tab_fn55 : tab.fn 55 = some Tryd.f55 := by kernel_rfl
theorem tab_fn56 : tab.fn 56 = some Tryd.f56 := by kernel_rfl
theorem tab_fn57 : tab.fn 57 = some Tryd.f57 := by kernel_rfl
theorem tab_fn58 : tab.fn 58 = some Tryd.f58 := by kernel_rfl
theorem tab_fn59 : tab.fn 59 = some Tryd.f59 := by kernel_rfl
theorem tab_fn60 : tab.fn 60 = some Tryd.f60 := by kernel_rfl
theorem tab_fn61 : tab.fn 61 = some Tryd.f61 := by kernel_rfl
theorem tab_fn62 : tab.fn 62 = some Tryd.f62 := by kernel_rfl
theorem tab_fn63 : tab.fn 63 = some Tryd.f63 := by kernel_rfl
theorem tab_fn64 : tab.fn 64 = some Tryd.f64 := by kernel_rfl
theorem tab_fn65 : tab.fn 65 = some Tryd.f65 := by kernel_rfl
theorem tab_fn66 : tab.fn 66 = some Tryd.f66 := by kernel_rfl
theorem tab_fn67 : tab.fn 67 = some Tryd.f67 := by kernel_rfl
theorem tab_fn68 : tab.fn 68 = some Tryd.f68 := by kernel_rfl
theorem tab_fn69 : tab.fn 69 = some Tryd.f69 := by kernel_rfl
theorem tab_fn70 : tab.fn 70 = some Tryd.f70 := by kernel_rfl
theorem tab_fn71 : tab.fn 71 = some Tryd.f71 := by kernel_rfl
theorem tab_fn72 : tab.fn 72 = some Tryd.f72 := by kernel_rfl
theorem tab_fn73 : tab.fn 73 = some Tryd.f73 := by kernel_rfl
theorem tab_fn74 : tab.fn 74 = some Tryd.f74 := by kernel_rfl
theorem tab_fn75 : tab.fn 75 = some Tryd.f75 := by kernel_rfl
theorem tab_fn76 : tab.fn 76 = some Tryd.f76 := by kernel_rfl
theorem tab_fn77 : tab.fn 77 = some Tryd.f77 := by kernel_rfl
theorem tab_fn78 : tab.fn 78 = some Tryd.f78 := by kernel_rfl
theorem tab_fn79 : tab.fn 79 = some Tryd.f79 := by kernel_rfl
theorem tab_fn80 : tab.fn 80 = some Tryd.f80 := by kernel_rfl
theorem tab_fn81 : tab.fn 81 = some Tryd.f81 := by kernel_rfl
theorem tab_fn82 : tab.fn 82 = some Tryd.f82 := by kernel_rfl
theorem tab_fn83 : tab.fn 83 = some Tryd.f83 := by kernel_rfl
theorem tab_fn84 : tab.fn 84 = some Tryd.f84 := by kernel_rfl
theorem tab_fn86 : tab.fn 86 = some Tryd.f86 := by kernel_rfl
theorem tab_fn87 : tab.fn 87 = some Tryd.f87 := by kernel_rfl
theorem tab_fn88 : tab.fn 88 = some Tryd.f88 := by kernel_rfl
theorem tab_fn89 : tab.fn 89 = some Tryd.f89 := by kernel_rfl
theorem tab_fn90 : tab.fn 90 = some Tryd.f90 := by kernel_rfl
theorem tab_fn91 : tab.fn 91 = some Tryd.f91 := by kernel_rfl
theorem tab_fn92 : tab.fn 92 = some Tryd.f92 := by kernel_rfl
theorem tab_fn93 : tab.fn 93 = some Tryd.f93 := by kernel_rfl
theorem tab_fn94 : tab.fn 94 = some Tryd.f94 := by kernel_rfl
theorem tab_fn98 : tab.fn 98 = some Tryd.f98 := by kernel_rfl
theorem tab_fn99 : tab.fn 99 = some Tryd.f99 := by kernel_rfl
theorem tab_fn100 : tab.fn 100 = some Tryd.f100 := by kernel_rfl
end Go.Proofs.YtiengdonkhgieaaDoor
