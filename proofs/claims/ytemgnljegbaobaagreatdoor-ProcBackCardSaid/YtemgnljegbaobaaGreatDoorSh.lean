/- contracts of the kit's shelf, laid at this dump in plain words by the kit's own tool (lay-plain). No conditions. -/
import Derived.Shelf.SlicesE.Clone
import Derived.Shelf.SlicesE.DeleteFunc
import Derived.Ground.SlgnProg
import Derived.Ground.SlgfProg
import Derived.Shelf.SlGeneric
import Derived.Test.YtemgnljegbaobaaGreatDoorProg
namespace Go.Proofs
open Go.Shelf
def Tryz.cloneItem_ren : Go.Shelf.Ren := ⟨fun | 41 => 62 | n => n, fun | 22 => 23 | 23 => 33 | 4 => 4 | n => n, fun | n => n⟩
theorem Tryz.cloneItem : Go.Proofs.SlLaysE0.n41 Tryz.prog Tryz.cloneItem_ren := {
  mixed := by kernel_rfl
  f41 := ⟨Tryz.f62.name, by decide, Tryz.func62.trans (congrArg some (by kernel_rfl))⟩
  t4 := Tryz.underlying4
  a4 := Tryz.isAgg4
  z4 := Tryz.sizeOf4
  v4 := Tryz.zeroValue4
  t22 := Tryz.underlying23
  a22 := Tryz.isAgg23
  z22 := Tryz.sizeOf23
  v22 := Tryz.zeroValue23 }
def Tryz.cloneInt_ren : Go.Shelf.Ren := ⟨fun | 41 => 63 | n => n, fun | 22 => 24 | 23 => 3 | 4 => 4 | n => n, fun | n => n⟩
theorem Tryz.cloneInt : Go.Proofs.SlLaysE0.n41 Tryz.prog Tryz.cloneInt_ren := {
  mixed := by kernel_rfl
  f41 := ⟨Tryz.f63.name, by decide, Tryz.func63.trans (congrArg some (by kernel_rfl))⟩
  t4 := Tryz.underlying4
  a4 := Tryz.isAgg4
  z4 := Tryz.sizeOf4
  v4 := Tryz.zeroValue4
  t22 := Tryz.underlying24
  a22 := Tryz.isAgg24
  z22 := Tryz.sizeOf24
  v22 := Tryz.zeroValue24 }
def Tryz.cloneWatch_ren : Go.Shelf.Ren := ⟨fun | 41 => 64 | n => n, fun | 22 => 25 | 23 => 81 | 4 => 4 | n => n, fun | n => n⟩
theorem Tryz.cloneWatch : Go.Proofs.SlLaysE0.n41 Tryz.prog Tryz.cloneWatch_ren := {
  mixed := by kernel_rfl
  f41 := ⟨Tryz.f64.name, by decide, Tryz.func64.trans (congrArg some (by kernel_rfl))⟩
  t4 := Tryz.underlying4
  a4 := Tryz.isAgg4
  z4 := Tryz.sizeOf4
  v4 := Tryz.zeroValue4
  t22 := Tryz.underlying25
  a22 := Tryz.isAgg25
  z22 := Tryz.sizeOf25
  v22 := Tryz.zeroValue25 }
def Tryz.cloneFrame_ren : Go.Shelf.Ren := ⟨fun | 41 => 83 | n => n, fun | 22 => 22 | 23 => 65 | 4 => 4 | n => n, fun | n => n⟩
theorem Tryz.cloneFrame : Go.Proofs.SlLaysE0.n41 Tryz.prog Tryz.cloneFrame_ren := {
  mixed := by kernel_rfl
  f41 := ⟨Tryz.f83.name, by decide, Tryz.func83.trans (congrArg some (by kernel_rfl))⟩
  t4 := Tryz.underlying4
  a4 := Tryz.isAgg4
  z4 := Tryz.sizeOf4
  v4 := Tryz.zeroValue4
  t22 := Tryz.underlying22
  a22 := Tryz.isAgg22
  z22 := Tryz.sizeOf22
  v22 := Tryz.zeroValue22 }
def Tryz.cloneTerm_ren : Go.Shelf.Ren := ⟨fun | 41 => 119 | n => n, fun | 22 => 29 | 23 => 31 | 4 => 4 | n => n, fun | n => n⟩
theorem Tryz.cloneTerm : Go.Proofs.SlLaysE0.n41 Tryz.prog Tryz.cloneTerm_ren := {
  mixed := by kernel_rfl
  f41 := ⟨Tryz.f119.name, by decide, Tryz.func119.trans (congrArg some (by kernel_rfl))⟩
  t4 := Tryz.underlying4
  a4 := Tryz.isAgg4
  z4 := Tryz.sizeOf4
  v4 := Tryz.zeroValue4
  t22 := Tryz.underlying29
  a22 := Tryz.isAgg29
  z22 := Tryz.sizeOf29
  v22 := Tryz.zeroValue29 }
def Tryz.cloneBool_ren : Go.Shelf.Ren := ⟨fun | 41 => 120 | n => n, fun | 22 => 56 | 23 => 4 | 4 => 4 | n => n, fun | n => n⟩
theorem Tryz.cloneBool : Go.Proofs.SlLaysE0.n41 Tryz.prog Tryz.cloneBool_ren := {
  mixed := by kernel_rfl
  f41 := ⟨Tryz.f120.name, by decide, Tryz.func120.trans (congrArg some (by kernel_rfl))⟩
  t4 := Tryz.underlying4
  a4 := Tryz.isAgg4
  z4 := Tryz.sizeOf4
  v4 := Tryz.zeroValue4
  t22 := Tryz.underlying56
  a22 := Tryz.isAgg56
  z22 := Tryz.sizeOf56
  v22 := Tryz.zeroValue56 }
def Tryz.cloneTry_ren : Go.Shelf.Ren := ⟨fun | 41 => 121 | n => n, fun | 22 => 57 | 23 => 101 | 4 => 4 | n => n, fun | n => n⟩
theorem Tryz.cloneTry : Go.Proofs.SlLaysE0.n41 Tryz.prog Tryz.cloneTry_ren := {
  mixed := by kernel_rfl
  f41 := ⟨Tryz.f121.name, by decide, Tryz.func121.trans (congrArg some (by kernel_rfl))⟩
  t4 := Tryz.underlying4
  a4 := Tryz.isAgg4
  z4 := Tryz.sizeOf4
  v4 := Tryz.zeroValue4
  t22 := Tryz.underlying57
  a22 := Tryz.isAgg57
  z22 := Tryz.sizeOf57
  v22 := Tryz.zeroValue57 }
def Tryz.cloneRec_ren : Go.Shelf.Ren := ⟨fun | 41 => 122 | n => n, fun | 22 => 58 | 23 => 176 | 4 => 4 | n => n, fun | n => n⟩
theorem Tryz.cloneRec : Go.Proofs.SlLaysE0.n41 Tryz.prog Tryz.cloneRec_ren := {
  mixed := by kernel_rfl
  f41 := ⟨Tryz.f122.name, by decide, Tryz.func122.trans (congrArg some (by kernel_rfl))⟩
  t4 := Tryz.underlying4
  a4 := Tryz.isAgg4
  z4 := Tryz.sizeOf4
  v4 := Tryz.zeroValue4
  t22 := Tryz.underlying58
  a22 := Tryz.isAgg58
  z22 := Tryz.sizeOf58
  v22 := Tryz.zeroValue58 }
def Tryz.deleteInt_ren : Go.Shelf.Ren := ⟨fun | 10 => 39 | 6 => 60 | n => n, fun | 22 => 24 | 23 => 3 | 25 => 94 | 3 => 3 | 4 => 4 | 0 => 0 | n => n, fun | n => n⟩
theorem Tryz.deleteInt : Go.Proofs.SlLaysH.n10 Tryz.prog Tryz.deleteInt_ren := {
  mixed := by kernel_rfl
  f6 := ⟨Tryz.f60.name, by decide, Tryz.func60.trans (congrArg some (by kernel_rfl))⟩
  f10 := ⟨Tryz.f39.name, by decide, Tryz.func39.trans (congrArg some (by kernel_rfl))⟩
  t0 := Tryz.underlying0
  a0 := Tryz.isAgg0
  z0 := Tryz.sizeOf0
  v0 := Tryz.zeroValue0
  t3 := Tryz.underlying3
  a3 := Tryz.isAgg3
  z3 := Tryz.sizeOf3
  v3 := Tryz.zeroValue3
  t4 := Tryz.underlying4
  a4 := Tryz.isAgg4
  z4 := Tryz.sizeOf4
  v4 := Tryz.zeroValue4
  t22 := Tryz.underlying24
  a22 := Tryz.isAgg24
  z22 := Tryz.sizeOf24
  v22 := Tryz.zeroValue24
  a23 := Tryz.isAgg3
  z23 := Tryz.sizeOf3
  t25 := Tryz.underlying94
  a25 := Tryz.isAgg94
  z25 := Tryz.sizeOf94
  v25 := Tryz.zeroValue94 }
end Go.Proofs
