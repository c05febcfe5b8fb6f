/- What a row's listed tables give the engine: GlobOK out of 'laidMetH'. -/
import Derived.Test.YtppblbacbmebfaaGreatDoorAbsLaw
import Derived.MakeChecks
import Derived.OpenShut
import Derived.LaidHandle
import Derived.FnData
namespace Go.Abs
open Go
theorem j62 {P:Program} {w:World} {x:String×DataW Unit}:∀ {l:List (String×DataW Unit)} {ps:List MemPlace},DataW.LaidVars P w l ps->x∈l ->
  ∃ g t cs fuel p,P.globalNamed x.1=some g/\(P.globals[g]?).map (·.type)=some t/\w.var? P x.1=some cs/\DataW.trod (fun _=>()) P w 0 (fun _=>true) false fuel t cs.toList=some (x.2,p)
 | [],_,_,hx=>by cases hx
 | (n,d)::r,ps,h,hx=>by
  obtain⟨g,t,cs,fuel,p,q,h1,h2,h3,h4,h5,-⟩:=h
  rcases List.mem_cons.1 hx with rfl | hx
  ·exact⟨g,t,cs,fuel,p,h1,h2,h3,h4⟩
  ·exact j62 h5 hx
def y1c (P:Program) (laid:List (String×DataW Unit)) (p:Nat×(IntKind×Nat×List Int)):Prop :=
 ∃ x∈laid,∃ t e,P.globalNamed x.1=some p.1/\(P.globals[p.1]?).map (·.type)=some t/\P.underlying t=some (.array p.2.2.1 e)/\P.underlying e=some (.int p.2.1)/\P.cellsOf e=1 /\
  x.2=.agg (p.2.2.2.map fun y=>.lit (.int p.2.1 y))
def y14 (P:Program) (laid:List (String×DataW Unit)) (p:Nat×(IntKind×Nat×List Int)):Prop :=
 ∃ x∈laid,∃ name,∃ r b e t:Nat,x.2.handleName? = some name/\x.2.funcsIn? = none/\P.globalNamed x.1=some p.1/\(P.cutTypes.find? (·.1== "internal/reflectlite.rtype")).map (·.2)=some r /\
  (List.range P.types.size).filter (fun t=>P.rowNamed t name)=[t]/\typeHandle P t=.pointer (some ⟨b,e,none⟩)/\p.2.2.2=[(r:Int),(b:Int),(e:Int)]
def TabOf (P:Program) (laid:List (String×DataW Unit)) (p:Nat×(IntKind×Nat×List Int)):Prop :=
 (p.2.2.1≠0/\y1c P laid p)\/(p.2.2.1=0/\y14 P laid p)
theorem y7n {P:Program} {laid:List (String×DataW Unit)} {W:World} (h:laidMetH P laid W) :
  laidMet P (laid.filter fun x=>x.2.handleName?.isNone) W/\∀ x∈laid,x.2.handleName?.isSome=true->handlesMet P [x] W:=by
 unfold laidMetH at h
 split at h
 ·rename_i he
  have hall:∀ x∈laid,x.2.handleName?.isSome=false:=fun x hx=>by
   cases hs:x.2.handleName?.isSome with
   | false=>rfl
   | true=>have h1:x∈laid.filter fun x=>x.2.handleName?.isSome:=List.mem_filter.2 ⟨hx,hs⟩;rw[he]at h1;cases h1
  refine⟨?_,fun x hx hs=>by rw[hall x hx]at hs;cases hs⟩
  rw[List.filter_eq_self.2 (fun x hx=>by have:=hall x hx;cases hh:x.2.handleName? with | none=>rfl | some _=>rw[hh]at this;cases this)]
  exact h
 ·rename_i y ys he
  refine⟨h.1,fun x hx hs z hz=>?_⟩
  obtain rfl:=List.mem_singleton.1 hz
  have h1:z∈laid.filter fun x=>x.2.handleName?.isSome:=List.mem_filter.2 ⟨hx,hs⟩
  exact h.2 z (by rw[<-he];exact h1)
theorem globOK_laid {P:Program} {laid:List (String×DataW Unit)} {gls:List (Nat×(IntKind×Nat×List Int))}
  (hg:∀ p∈gls,TabOf P laid p) {W:World} (h:laidMetH P laid W):GlobOK (look gls) W:=by
 obtain⟨⟨ps,hv,-,-⟩,hh⟩:=y7n h
 intro g k n l hl
 rcases hg _ (S2 hl)with⟨hn0,x,hx,t,e,e1,e2,e3,e4,e5,e6⟩ | ⟨hn0,x,hx,name,r,b,e,t,e1,e2,e3,e4,e5,e6,e7⟩
 rotate_left
 ·refine⟨fun h0=>absurd hn0 h0,fun _=>⟨r,b,e,e7,?_⟩⟩
  have h1:=hh x hx (by rw[e1];rfl) x (List.mem_singleton.2 rfl)
  rw[e2]at h1
  obtain⟨name',u,ty,g1,g2,g3,g4,g5⟩:=h1
  obtain rfl:=Option.some.inj (e1.symm.trans g1)
  obtain rfl:=Option.some.inj (e4.symm.trans g2)
  have hm:ty∈(List.range P.types.size).filter fun t=>P.rowNamed t name:=List.mem_filter.2 ⟨List.mem_range.2 g3,g4⟩
  rw[e5]at hm
  obtain rfl:=List.mem_singleton.1 hm
  rw[e6]at g5
  have:=World.var?_cell e3 g5 0
  simpa using this
 refine⟨fun _=>?_,fun h0=>absurd h0 hn0⟩
 have hx:x∈laid.filter fun x=>x.2.handleName?.isNone:=List.mem_filter.2 ⟨hx,by rw[show x.2=_ from e6];rfl⟩
 obtain⟨g',t',cs,fuel,p,f1,f2,f3,f4⟩:=j62 hv hx
 dsimp only at e1 e2 e3 e4 e6
 obtain rfl:=Option.some.inj (e1.symm.trans f1)
 obtain rfl:=Option.some.inj (e2.symm.trans f2)
 obtain⟨xs,m,-,hxs,hlen,hn,hel⟩:=DataW.trod_array e3 f4
 simp only[Prod.mk.injEq]at hxs
 have hxs1:=hxs.1
 rw[e6]at hxs1
 have hmap:l.map (fun y=>(DataW.lit (.int k y):DataW Unit))=xs.map (·.1):=by simpa using hxs1
 have hll:l.length=n:=by
  have:=congrArg List.length hmap
  simpa[hn]using this
 refine⟨hll,fun i y hi=>?_⟩
 have hin:i<n:=by rw[<-hll];exact(List.getElem?_eq_some_iff.1 hi).1
 have h0:=hel i hin
 rw[e5,Nat.mul_one]at h0
 obtain⟨z,hz⟩:∃ z,xs[i]? = some z:=⟨xs[i]'(by omega),List.getElem?_eq_getElem (by omega)⟩
 rw[hz]at h0
 obtain⟨y',g1,g2,-⟩:=DataW.trod_int e4 h0
 have h1:(l.map (fun y=>(DataW.lit (.int k y):DataW Unit)))[i]? = some z.1:=by rw[hmap,List.getElem?_map,hz];rfl
 rw[List.getElem?_map,hi,g2]at h1
 simp only[Option.map_some,Option.some.injEq,DataW.lit.injEq,Lit.int.injEq,true_and]at h1
 subst h1
 rw[World.var?_cell f1 f3 i]
 have h2:(cs.toList.drop i)[0]? = some (.int k y):=by
  have:((cs.toList.drop i).take 1)[0]? = some (.int k y):=by rw[g1];rfl
  simpa using this
 simpa using h2
end Go.Abs
