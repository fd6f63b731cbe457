/- Part. -/
import Derived.Test.YtodkbabdaoeooaaGreatDoorVlF
import Derived.Lib.Join
import Derived.Lib.ItoaNum
set_option linter.all false
namespace Go.Vl
open Go
noncomputable def ZSA (xs:List ByteArray)(sep:ByteArray):ByteArray:=⟨(Lib.join (xs.map (·.data.toList)) sep.data.toList).toArray⟩
def ZP5 (xs:List ByteArray)(sep:ByteArray):Prop:=xs.length<=140737488355328/\(Lib.join (xs.map (·.data.toList)) sep.data.toList).length<=140737488355328
noncomputable instance (xs:List ByteArray) (sep:ByteArray):Decidable (ZP5 xs sep):=Classical.propDecidable _
noncomputable def ZSB (n:Int):ByteArray:=⟨(Lib.decDigits n.toNat).toArray⟩
noncomputable def ZA5 (n:Int):ByteArray:=⟨(Lib.itoa n).toArray⟩
def Zh (s:ByteArray):List Int:=s.data.toList.map fun b=>(b.toNat:Int)
def okB (xs:List Int):Prop:=∀x,x∈xs->0<=x/\x<256
noncomputable instance okBDec (xs:List Int):Decidable (okB xs):=Classical.propDecidable _
end Go.Vl
