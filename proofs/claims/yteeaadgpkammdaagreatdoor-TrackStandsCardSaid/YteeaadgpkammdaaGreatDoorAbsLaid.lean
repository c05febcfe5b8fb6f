/- What a row's listed tables give the engine: GlobOK out of 'laidMetH'. -/
import Derived.Test.YteeaadgpkammdaaGreatDoorAbsLaw
import Derived.MakeChecks
import Derived.OpenShut
import Derived.LaidHandle
import Derived.FnData
namespace Go.Abs
open Go
theorem j5i {P:Program} {w:World} {x:String×DataW Unit}:∀ {l:List (String×DataW Unit)} {ps:List MemPlace},DataW.LaidVars P w l ps->x∈l ->
  ∃ g t cs fuel p,P.globalNamed x.1=some g/\(P.globals[g]?).map (·.type)=some t/\w.var? P x.1=some cs/\DataW.trod (fun _=>()) P w 0 (fun _=>true) false fuel t cs.toList=some (x.2,p)
 | [],_,_,hx=>by cases hx
 | (n,d)::r,ps,h,hx=>by
  obtain⟨g,t,cs,fuel,p,q,h1,h2,h3,h4,h5,-⟩:=h
  rcases List.mem_cons.1 hx with rfl | hx
  ·exact⟨g,t,cs,fuel,p,h1,h2,h3,h4⟩
  ·exact j5i h5 hx
def TabOf (P:Program) (laid:List (String×DataW Unit)) (p:Nat×(IntKind×Nat×List Int)):Prop :=
 ∃ x∈laid,∃ t e,P.globalNamed x.1=some p.1/\(P.globals[p.1]?).map (·.type)=some t/\P.underlying t=some (.array p.2.2.1 e)/\P.underlying e=some (.int p.2.1)/\P.cellsOf e=1 /\
  x.2=.agg (p.2.2.2.map fun y=>.lit (.int p.2.1 y))
theorem globOK_laid {P:Program} {laid:List (String×DataW Unit)} {gls:List (Nat×(IntKind×Nat×List Int))} (hpl:(laid.all fun x=>x.2.handleName?.isNone)=true)
  (hg:∀ p∈gls,TabOf P laid p) {W:World} (h:laidMetH P laid W):GlobOK (look gls) W:=by
 rw[MakeChecks.laidMetH_plain _ _ _ hpl]at h
 obtain⟨ps,hv,-,-⟩:=h
 intro g k n l hl
 obtain⟨x,hx,t,e,e1,e2,e3,e4,e5,e6⟩:=hg _ (q17 hl)
 obtain⟨g',t',cs,fuel,p,f1,f2,f3,f4⟩:=j5i hv hx
 dsimp only at e1 e2 e3 e4 e6
 obtain rfl:=Option.some.inj (e1.symm.trans f1)
 obtain rfl:=Option.some.inj (e2.symm.trans f2)
 obtain⟨xs,m,-,hxs,hlen,hn,hel⟩:=DataW.trod_array e3 f4
 simp only[Prod.mk.injEq]at hxs
 have hxs1:=hxs.1
 rw[e6]at hxs1
 have hmap:l.map (fun y=>(DataW.lit (.int k y):DataW Unit))=xs.map (·.1):=by simpa using hxs1
 have hll:l.length=n:=by
  have:=congrArg List.length hmap
  simpa[hn]using this
 refine⟨hll,fun i y hi=>?_⟩
 have hin:i<n:=by rw[<-hll];exact(List.getElem?_eq_some_iff.1 hi).1
 have h0:=hel i hin
 rw[e5,Nat.mul_one]at h0
 obtain⟨z,hz⟩:∃ z,xs[i]? = some z:=⟨xs[i]'(by omega),List.getElem?_eq_getElem (by omega)⟩
 rw[hz]at h0
 obtain⟨y',g1,g2,-⟩:=DataW.trod_int e4 h0
 have h1:(l.map (fun y=>(DataW.lit (.int k y):DataW Unit)))[i]? = some z.1:=by rw[hmap,List.getElem?_map,hz];rfl
 rw[List.getElem?_map,hi,g2]at h1
 simp only[Option.map_some,Option.some.injEq,DataW.lit.injEq,Lit.int.injEq,true_and]at h1
 subst h1
 rw[World.var?_cell f1 f3 i]
 have h2:(cs.toList.drop i)[0]? = some (.int k y):=by
  have:((cs.toList.drop i).take 1)[0]? = some (.int k y):=by rw[g1];rfl
  simpa using this
 simpa using h2
end Go.Abs
