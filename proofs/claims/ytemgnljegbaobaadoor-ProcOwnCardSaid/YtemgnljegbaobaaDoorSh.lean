/- contracts of the kit's shelf, laid at this dump in plain words by the kit's own tool (lay-plain). No conditions. -/
import Derived.Shelf.SlicesE.Clone
import Derived.Shelf.SlicesE.DeleteFunc
import Derived.Ground.SlgnProg
import Derived.Ground.SlgfProg
import Derived.Shelf.SlGeneric
import Derived.Test.YtemgnljegbaobaaDoorProg
namespace Go.Proofs
open Go.Shelf
def Tryd.cloneItem_ren : Go.Shelf.Ren := ⟨fun | 41 => 23 | n => n, fun | 22 => 25 | 23 => 47 | 4 => 4 | n => n, fun | n => n⟩
theorem Tryd.cloneItem : Go.Proofs.SlLaysE0.n41 Tryd.prog Tryd.cloneItem_ren := {
  mixed := by kernel_rfl
  f41 := ⟨Tryd.f23.name, by decide, Tryd.func23.trans (congrArg some (by kernel_rfl))⟩
  t4 := Tryd.underlying4
  a4 := Tryd.isAgg4
  z4 := Tryd.sizeOf4
  v4 := Tryd.zeroValue4
  t22 := Tryd.underlying25
  a22 := Tryd.isAgg25
  z22 := Tryd.sizeOf25
  v22 := Tryd.zeroValue25 }
def Tryd.cloneInt_ren : Go.Shelf.Ren := ⟨fun | 41 => 24 | n => n, fun | 22 => 26 | 23 => 3 | 4 => 4 | n => n, fun | n => n⟩
theorem Tryd.cloneInt : Go.Proofs.SlLaysE0.n41 Tryd.prog Tryd.cloneInt_ren := {
  mixed := by kernel_rfl
  f41 := ⟨Tryd.f24.name, by decide, Tryd.func24.trans (congrArg some (by kernel_rfl))⟩
  t4 := Tryd.underlying4
  a4 := Tryd.isAgg4
  z4 := Tryd.sizeOf4
  v4 := Tryd.zeroValue4
  t22 := Tryd.underlying26
  a22 := Tryd.isAgg26
  z22 := Tryd.sizeOf26
  v22 := Tryd.zeroValue26 }
def Tryd.cloneWatch_ren : Go.Shelf.Ren := ⟨fun | 41 => 25 | n => n, fun | 22 => 27 | 23 => 56 | 4 => 4 | n => n, fun | n => n⟩
theorem Tryd.cloneWatch : Go.Proofs.SlLaysE0.n41 Tryd.prog Tryd.cloneWatch_ren := {
  mixed := by kernel_rfl
  f41 := ⟨Tryd.f25.name, by decide, Tryd.func25.trans (congrArg some (by kernel_rfl))⟩
  t4 := Tryd.underlying4
  a4 := Tryd.isAgg4
  z4 := Tryd.sizeOf4
  v4 := Tryd.zeroValue4
  t22 := Tryd.underlying27
  a22 := Tryd.isAgg27
  z22 := Tryd.sizeOf27
  v22 := Tryd.zeroValue27 }
def Tryd.cloneFrame_ren : Go.Shelf.Ren := ⟨fun | 41 => 47 | n => n, fun | 22 => 24 | 23 => 45 | 4 => 4 | n => n, fun | n => n⟩
theorem Tryd.cloneFrame : Go.Proofs.SlLaysE0.n41 Tryd.prog Tryd.cloneFrame_ren := {
  mixed := by kernel_rfl
  f41 := ⟨Tryd.f47.name, by decide, Tryd.func47.trans (congrArg some (by kernel_rfl))⟩
  t4 := Tryd.underlying4
  a4 := Tryd.isAgg4
  z4 := Tryd.sizeOf4
  v4 := Tryd.zeroValue4
  t22 := Tryd.underlying24
  a22 := Tryd.isAgg24
  z22 := Tryd.sizeOf24
  v22 := Tryd.zeroValue24 }
def Tryd.cloneTerm_ren : Go.Shelf.Ren := ⟨fun | 41 => 82 | n => n, fun | 22 => 34 | 23 => 37 | 4 => 4 | n => n, fun | n => n⟩
theorem Tryd.cloneTerm : Go.Proofs.SlLaysE0.n41 Tryd.prog Tryd.cloneTerm_ren := {
  mixed := by kernel_rfl
  f41 := ⟨Tryd.f82.name, by decide, Tryd.func82.trans (congrArg some (by kernel_rfl))⟩
  t4 := Tryd.underlying4
  a4 := Tryd.isAgg4
  z4 := Tryd.sizeOf4
  v4 := Tryd.zeroValue4
  t22 := Tryd.underlying34
  a22 := Tryd.isAgg34
  z22 := Tryd.sizeOf34
  v22 := Tryd.zeroValue34 }
def Tryd.cloneBool_ren : Go.Shelf.Ren := ⟨fun | 41 => 83 | n => n, fun | 22 => 22 | 23 => 4 | 4 => 4 | n => n, fun | n => n⟩
theorem Tryd.cloneBool : Go.Proofs.SlLaysE0.n41 Tryd.prog Tryd.cloneBool_ren := {
  mixed := by kernel_rfl
  f41 := ⟨Tryd.f83.name, by decide, Tryd.func83.trans (congrArg some (by kernel_rfl))⟩
  t4 := Tryd.underlying4
  a4 := Tryd.isAgg4
  z4 := Tryd.sizeOf4
  v4 := Tryd.zeroValue4
  t22 := Tryd.underlying22
  a22 := Tryd.isAgg22
  z22 := Tryd.sizeOf22
  v22 := Tryd.zeroValue22 }
def Tryd.cloneTry_ren : Go.Shelf.Ren := ⟨fun | 41 => 84 | n => n, fun | 22 => 35 | 23 => 132 | 4 => 4 | n => n, fun | n => n⟩
theorem Tryd.cloneTry : Go.Proofs.SlLaysE0.n41 Tryd.prog Tryd.cloneTry_ren := {
  mixed := by kernel_rfl
  f41 := ⟨Tryd.f84.name, by decide, Tryd.func84.trans (congrArg some (by kernel_rfl))⟩
  t4 := Tryd.underlying4
  a4 := Tryd.isAgg4
  z4 := Tryd.sizeOf4
  v4 := Tryd.zeroValue4
  t22 := Tryd.underlying35
  a22 := Tryd.isAgg35
  z22 := Tryd.sizeOf35
  v22 := Tryd.zeroValue35 }
def Tryd.cloneRec_ren : Go.Shelf.Ren := ⟨fun | 41 => 85 | n => n, fun | 22 => 38 | 23 => 138 | 4 => 4 | n => n, fun | n => n⟩
theorem Tryd.cloneRec : Go.Proofs.SlLaysE0.n41 Tryd.prog Tryd.cloneRec_ren := {
  mixed := by kernel_rfl
  f41 := ⟨Tryd.f85.name, by decide, Tryd.func85.trans (congrArg some (by kernel_rfl))⟩
  t4 := Tryd.underlying4
  a4 := Tryd.isAgg4
  z4 := Tryd.sizeOf4
  v4 := Tryd.zeroValue4
  t22 := Tryd.underlying38
  a22 := Tryd.isAgg38
  z22 := Tryd.sizeOf38
  v22 := Tryd.zeroValue38 }
def Tryd.deleteInt_ren : Go.Shelf.Ren := ⟨fun | 10 => 29 | 6 => 52 | n => n, fun | 22 => 26 | 23 => 3 | 25 => 77 | 3 => 3 | 4 => 4 | 0 => 0 | n => n, fun | n => n⟩
theorem Tryd.deleteInt : Go.Proofs.SlLaysH.n10 Tryd.prog Tryd.deleteInt_ren := {
  mixed := by kernel_rfl
  f6 := ⟨Tryd.f52.name, by decide, Tryd.func52.trans (congrArg some (by kernel_rfl))⟩
  f10 := ⟨Tryd.f29.name, by decide, Tryd.func29.trans (congrArg some (by kernel_rfl))⟩
  t0 := Tryd.underlying0
  a0 := Tryd.isAgg0
  z0 := Tryd.sizeOf0
  v0 := Tryd.zeroValue0
  t3 := Tryd.underlying3
  a3 := Tryd.isAgg3
  z3 := Tryd.sizeOf3
  v3 := Tryd.zeroValue3
  t4 := Tryd.underlying4
  a4 := Tryd.isAgg4
  z4 := Tryd.sizeOf4
  v4 := Tryd.zeroValue4
  t22 := Tryd.underlying26
  a22 := Tryd.isAgg26
  z22 := Tryd.sizeOf26
  v22 := Tryd.zeroValue26
  a23 := Tryd.isAgg3
  z23 := Tryd.sizeOf3
  t25 := Tryd.underlying77
  a25 := Tryd.isAgg77
  z25 := Tryd.sizeOf77
  v25 := Tryd.zeroValue77 }
end Go.Proofs
