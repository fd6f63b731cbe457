/- Texts that Go's library writes: joined texts, small numbers. -/
import Derived.Test.YtnbcpgpmeeminaaDoorVlF
import Derived.Lib.Join
import Derived.Lib.ItoaNum
set_option linter.all false
namespace Go.Vl
open Go
noncomputable def joinB (xs:List ByteArray)(sep:ByteArray):ByteArray:=⟨(Lib.join (xs.map (·.data.toList)) sep.data.toList).toArray⟩
def joinOk (xs:List ByteArray)(sep:ByteArray):Prop:=xs.length≤140737488355328∧(Lib.join (xs.map (·.data.toList)) sep.data.toList).length≤140737488355328
noncomputable instance (xs:List ByteArray) (sep:ByteArray):Decidable (joinOk xs sep):=Classical.propDecidable _
noncomputable def itoaB (n:Int):ByteArray:=⟨(Lib.decDigits n.toNat).toArray⟩
noncomputable def itoaN (n:Int):ByteArray:=⟨(Lib.itoa n).toArray⟩
def bytesI (s:ByteArray):List Int:=s.data.toList.map fun b=>(b.toNat:Int)
def okB (xs:List Int):Prop:=∀x,x∈xs→0≤x∧x<256
noncomputable instance okBDec (xs:List Int):Decidable (okB xs):=Classical.propDecidable _
end Go.Vl
