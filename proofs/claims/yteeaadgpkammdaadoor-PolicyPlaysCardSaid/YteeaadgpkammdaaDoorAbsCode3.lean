/- The engine, part 18b: code with ranges over maps. In what order a map hands out its entries is the machine's choice: what stands here holds for every order. -/
import Derived.Test.YteeaadgpkammdaaDoorAbsCode2
import Derived.Maps.RangeRun
namespace Go.Abs
open Go Go.RowKit
open Go.ChangeMaps (setBlock)
variable {P:Program} {L:Nat→Prop} {w0:World}
section
variable {E σ β γ:Type}
open Classical in
end
def St.obj (st:St) (id:Nat) (o:AObj):St:={ st with h:=upd st.h id o }
def St.tmp (st:St) (d:Nat) (v:AV):St:={ st with ρ:=upd st.ρ d v }
theorem IterRep.drop {w:World} {A:Nat→Prop} {ak av:Bool} {tk tv:Ty} {left:List (tk.den × tv.den)} {cur:Option (tk.den × tv.den)} {m:Option Nat} {since:Nat} {seen:Array Nat} {c0:Nat}
    (h:IterRep w A ak av tk tv left cur m since seen c0):IterRep w A ak av tk tv left none m since seen c0 where
  map:=by
    rcases h.map with ⟨h1,h2,h3⟩ | ⟨b,es,clock,h1,h2,h3,h4,h5,h6,h7,h8,h9⟩
    · exact .inl ⟨h1,h2,rfl⟩
    · exact .inr ⟨b,es,clock,h1,h2,h3,h4,h5,h6,h7,h8,fun q hq=>by cases hq⟩
end Go.Abs
