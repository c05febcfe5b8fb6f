/- How long an argument can be: the form's reach, at a plain list. -/
import Derived.Test.YtkfjlcdaepckoaaAbsLaw
import Derived.SizedLaws
namespace Go.Abs
open Go
variable {H:Type}
theorem sized_len {P:Program} {ts us:List TypeId} {ds gs:List (DataW H)} (h:(DataW.weightsEach P (ts++us) (ds++gs)).all (·<=reachBytes)=true) {j:Nat} {t e:TypeId} {te:Ty} {d:DataW H} {x:(Ty.list te).den} {b:Nat}
  (hi:R7 (.list te) d x) (ht:(ts++us)[j]? = some t) (hd:(ds++gs)[j]? = some d) (hu:P.underlying t=some (.slice e)) (hb:P.bytesOf e=b):List.length x*b<=140737488351232:=by
 rcases hi with⟨_,hx⟩ | ⟨es,sp,rfl,hl,_⟩
 ·have:List.length x=0:=by rw[hx];rfl
  rw[this];omega
 ·have:=sized_slice h ht hd hu
  rw[hb]at this
  have h2:List.length x*b<=(es.length+sp.length)*b:=Nat.mul_le_mul_right b (by rw[<-hl];omega)
  have h3:reachBytes=140737488351232:=rfl
  omega
end Go.Abs
