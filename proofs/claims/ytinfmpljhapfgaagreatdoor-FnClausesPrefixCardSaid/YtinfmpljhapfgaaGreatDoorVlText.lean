/- A part of the proof. -/
import Derived.Test.YtinfmpljhapfgaaGreatDoorVlF
import Derived.Lib.Join
import Derived.Lib.ItoaNum
set_option linter.all false
namespace Go.Vl
open Go
noncomputable def ZCD (xs:List ByteArray)(sep:ByteArray):ByteArray:=⟨(Lib.join (xs.map (·.data.toList)) sep.data.toList).toArray⟩
def ZHP (xs:List ByteArray)(sep:ByteArray):Prop:=xs.length<=140737488355328/\(Lib.join (xs.map (·.data.toList)) sep.data.toList).length<=140737488355328
noncomputable instance (xs:List ByteArray) (sep:ByteArray):Decidable (ZHP xs sep):=Classical.propDecidable _
noncomputable def ZGY (n:Int):ByteArray:=⟨(Lib.decDigits n.toNat).toArray⟩
end Go.Vl
