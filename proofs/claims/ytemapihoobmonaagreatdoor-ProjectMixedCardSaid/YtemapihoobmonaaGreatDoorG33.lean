/- Walks: the document's cursor: numbers, texts, bytes. Written out by fill2.py. No condition. -/
import Derived.Test.YtemapihoobmonaaGreatDoorG31
import Derived.Test.YtemapihoobmonaaGreatDoorZN2
import Derived.Test.YtemapihoobmonaaGreatDoorG24
import Derived.Test.YtemapihoobmonaaGreatDoorG28
import Derived.KernelRfl
import Derived.Test.YtemapihoobmonaaGreatDoorG30
import Derived.Test.YtemapihoobmonaaGreatDoorG19
import Derived.Test.YtemapihoobmonaaGreatDoorG20
import Derived.Test.YtemapihoobmonaaGreatDoorG16
namespace Go.Proofs.YtemapihoobmonaaGreatDoor
open Go.Am
set_option linter.unusedVariables false
set_option linter.unusedSimpArgs false
set_option maxRecDepth 100000
set_option maxHeartbeats 0
noncomputable def N21 := zaB Tryz.f21
noncomputable def x21 := PLift.up (by have c := zak N21 Tryz.f21; simp only [zap, Tryz.f21, Option.getD_some, zao, opsF, opsX, zah, zaA, dstL, zam, List.append_eq, List.cons_append, List.nil_append, seval] at c; exact nd c <| nd @ix27 <| nd @ld26 <| nd @ln27 <| @fi21)
noncomputable def N13 := zaB Tryz.f13
noncomputable def x13 := PLift.up (by have c := zak N13 Tryz.f13; simp only [zap, Tryz.f13, Option.getD_some, zao, opsF, opsX, zah, zaA, dstL, zam, List.append_eq, List.cons_append, List.nil_append, seval] at c; exact nd c <| nd @ix27 <| nd @ix32 <| nd @ld26 <| nd @ld29 <| nd @ln27 <| nd @ln32 <| @fi13)
noncomputable def N18 := zaB Tryz.f18
noncomputable def x18 := PLift.up (by have c := zak N18 Tryz.f18; simp only [zap, Tryz.f18, Option.getD_some, zao, opsF, opsX, zah, zaA, dstL, zam, List.append_eq, List.cons_append, List.nil_append, seval] at c; exact nd c <| nd @al26 <| nd @zj2 <| nd @ix24 <| nd @ld23 <| nd @ld26 <| @fi18)
noncomputable def N15 := zaB Tryz.f15
noncomputable def x15 := PLift.up (by have c := zak N15 Tryz.f15; simp only [zap, Tryz.f15, Option.getD_some, zao, opsF, opsX, zah, zaA, dstL, zam, List.append_eq, List.cons_append, List.nil_append, seval] at c; exact nd c <| nd @al23 <| nd @bs36 <| nd @ztH <| nd @zoW <| nd @zpr <| nd @zj2 <| nd @ix24 <| nd @ld23 <| nd @ld26 <| nd @ld3 <| nd @ld4 <| nd @ld9 <| @fi15)
end Go.Proofs.YtemapihoobmonaaGreatDoor
namespace Go.Proofs.YtemapihoobmonaaGreatDoor
open Go.Am
set_option linter.unusedSimpArgs false
set_option linter.unusedVariables false
set_option maxRecDepth 100000
set_option maxHeartbeats 0
theorem zu8 (a : TermD) : cut a.cells 0 2 = some a.cells := rfl
theorem zuM (a : TermD) : Value.agg a.cells.toArray = a.val := rfl
end Go.Proofs.YtemapihoobmonaaGreatDoor
namespace Go.Proofs.YtemapihoobmonaaGreatDoor
open Go.Am
set_option linter.unusedVariables false
set_option linter.unusedSimpArgs false
set_option maxRecDepth 100000
set_option maxHeartbeats 0
noncomputable def N186 := zaB Tryz.f186
noncomputable def x186 := PLift.up (by have c := zak N186 Tryz.f186; simp only [zap, Tryz.f186, Option.getD_some, zao, opsF, opsX, zah, zaA, dstL, zam, List.append_eq, List.cons_append, List.nil_append, seval] at c; exact nd c <| @zzQ)
theorem c186 : type_of% x186.down := x186.down
noncomputable def N217 := zaB Tryz.f217
noncomputable def x217 := PLift.up (by have c := zak N217 Tryz.f217; simp only [zap, Tryz.f217, Option.getD_some, zao, opsF, opsX, zah, zaA, dstL, zam, List.append_eq, List.cons_append, List.nil_append, seval] at c; exact nd c <| @zzp)
theorem c217 : type_of% x217.down := x217.down
noncomputable def N215 := zaB Tryz.f215
noncomputable def x215 := PLift.up (by have c := zak N215 Tryz.f215; simp only [zap, Tryz.f215, Option.getD_some, zao, opsF, opsX, zah, zaA, dstL, zam, List.append_eq, List.cons_append, List.nil_append, seval] at c; exact nd c <| @zAa)
theorem c215 : type_of% x215.down := x215.down
noncomputable def N187 := zaB Tryz.f187
noncomputable def x187 := PLift.up (by have c := zak N187 Tryz.f187; simp only [zap, Tryz.f187, Option.getD_some, zao, opsF, opsX, zah, zaA, dstL, zam, List.append_eq, List.cons_append, List.nil_append, seval] at c; exact nd c <| @zzz)
theorem c187 : type_of% x187.down := x187.down
noncomputable def N185 := zaB Tryz.f185
noncomputable def x185 := PLift.up (by have c := zak N185 Tryz.f185; simp only [zap, Tryz.f185, Option.getD_some, zao, opsF, opsX, zah, zaA, dstL, zam, List.append_eq, List.cons_append, List.nil_append, seval] at c; exact nd c <| nd @ln9 <| @zzL)
theorem c185 : type_of% x185.down := x185.down
noncomputable def N216 := zaB Tryz.f216
noncomputable def x216 := PLift.up (by have c := zak N216 Tryz.f216; simp only [zap, Tryz.f216, Option.getD_some, zao, opsF, opsX, zah, zaA, dstL, zam, List.append_eq, List.cons_append, List.nil_append, seval] at c; exact nd c <| @zAp)
theorem c216 : type_of% x216.down := x216.down
noncomputable def N188 := zaB Tryz.f188
noncomputable def x188 := PLift.up (by have c := zak N188 Tryz.f188; simp only [zap, Tryz.f188, Option.getD_some, zao, opsF, opsX, zah, zaA, dstL, zam, List.append_eq, List.cons_append, List.nil_append, seval] at c; exact nd c <| @zzi)
theorem c188 : type_of% x188.down := x188.down
noncomputable def N159 := zaB Tryz.f159
noncomputable def x159 := PLift.up (by have c := zak N159 Tryz.f159; simp only [zap, Tryz.f159, Option.getD_some, zao, opsF, opsX, zah, zaA, dstL, zam, List.append_eq, List.cons_append, List.nil_append, seval] at c; exact nd c <| @zzy)
theorem c159 : type_of% x159.down := x159.down
noncomputable def N160 := zaB Tryz.f160
noncomputable def x160 := PLift.up (by have c := zak N160 Tryz.f160; simp only [zap, Tryz.f160, Option.getD_some, zao, opsF, opsX, zah, zaA, dstL, zam, List.append_eq, List.cons_append, List.nil_append, seval] at c; exact nd c <| @zzt)
theorem c160 : type_of% x160.down := x160.down
noncomputable def N191 := zaB Tryz.f191
noncomputable def x191 := PLift.up (by have c := zak N191 Tryz.f191; simp only [zap, Tryz.f191, Option.getD_some, zao, opsF, opsX, zah, zaA, dstL, zam, List.append_eq, List.cons_append, List.nil_append, seval] at c; exact nd c <| @zAg)
theorem c191 : type_of% x191.down := x191.down
noncomputable def N219 := zaB Tryz.f219
noncomputable def x219 := PLift.up (by have c := zak N219 Tryz.f219; simp only [zap, Tryz.f219, Option.getD_some, zao, opsF, opsX, zah, zaA, dstL, zam, List.append_eq, List.cons_append, List.nil_append, seval] at c; exact nd c <| @zzn)
theorem c219 : type_of% x219.down := x219.down
noncomputable def N190 := zaB Tryz.f190
noncomputable def x190 := PLift.up (by have c := zak N190 Tryz.f190; simp only [zap, Tryz.f190, Option.getD_some, zao, opsF, opsX, zah, zaA, dstL, zam, List.append_eq, List.cons_append, List.nil_append, seval] at c; exact nd c <| @zz8)
theorem c190 : type_of% x190.down := x190.down
noncomputable def N218 := zaB Tryz.f218
noncomputable def x218 := PLift.up (by have c := zak N218 Tryz.f218; simp only [zap, Tryz.f218, Option.getD_some, zao, opsF, opsX, zah, zaA, dstL, zam, List.append_eq, List.cons_append, List.nil_append, seval] at c; exact nd c <| @zz7)
theorem c218 : type_of% x218.down := x218.down
noncomputable def N108 := zaB Tryz.f108
noncomputable def x108 := PLift.up (by have c := zak N108 Tryz.f108; simp only [zap, Tryz.f108, Option.getD_some, zao, opsF, opsX, zah, zaA, dstL, zam, List.append_eq, List.cons_append, List.nil_append, seval] at c; exact nd c <| @zzB)
theorem c108 : type_of% x108.down := x108.down
noncomputable def N140 := zaB Tryz.f140
noncomputable def x140 := PLift.up (by have c := zak N140 Tryz.f140; simp only [zap, Tryz.f140, Option.getD_some, zao, opsF, opsX, zah, zaA, dstL, zam, List.append_eq, List.cons_append, List.nil_append, seval] at c; exact nd c <| nd @ix49 <| nd @ld9 <| nd @ln49 <| @zzT)
theorem c140 : type_of% x140.down := x140.down
noncomputable def N164 := zaB Tryz.f164
noncomputable def x164 := PLift.up (by have c := zak N164 Tryz.f164; simp only [zap, Tryz.f164, Option.getD_some, zao, opsF, opsX, zah, zaA, dstL, zam, List.append_eq, List.cons_append, List.nil_append, seval] at c; exact nd c <| nd @ztH <| nd @zoW <| nd @ld4 <| nd @ld9 <| @zzV)
theorem c164 : type_of% x164.down := x164.down
noncomputable def N125 := zaB Tryz.f125
noncomputable def x125 := PLift.up (by have c := zak N125 Tryz.f125; simp only [zap, Tryz.f125, Option.getD_some, zao, opsF, opsX, zah, zaA, dstL, zam, List.append_eq, List.cons_append, List.nil_append, seval] at c; exact nd c <| nd @al23 <| nd @zsf <| nd @zsj <| nd @zpr <| nd @zj2 <| nd @zyY <| nd @ld23 <| nd @ld26 <| nd @ld3 <| nd @ld9 <| nd @zyE <| @zAq)
theorem c125 : type_of% x125.down := x125.down
noncomputable def N163 := zaB Tryz.f163
noncomputable def x163 := PLift.up (by have c := zak N163 Tryz.f163; simp only [zap, Tryz.f163, Option.getD_some, zao, opsF, opsX, zah, zaA, dstL, zam, List.append_eq, List.cons_append, List.nil_append, seval] at c; exact nd c <| nd @ld23 <| @zzU)
theorem c163 : type_of% x163.down := x163.down
end Go.Proofs.YtemapihoobmonaaGreatDoor
