/- The engine, part 23: from a law of plain values to the contract of its row. -/
import Derived.Test.YtecofmaegcibeaaGreatDoorAbsRow
namespace Go.Abs
open Go Go.RowKit Go.ChangeShapes
variable {P:Program} {H:Type} {enc:TypeId×Value->H}
def q6x (P:Program):List TypeId->List (Bool×Ty)->Bool
 | [],[]=>true
 | t::ts,(agg,ty)::as=>q1i P 60 t ty&&(agg==q96 P t)&&q6x P ts as
 | _,_=>false
def WfA:(as:List (Bool×Ty))->F9 as->Prop
 | [],_=>True
 | a::r,x=>Wf a.2 x.1/\WfA r x.2
def z2r:(as:List (Bool×Ty))->List (DataW H)->F9 as->Prop
 | [],ds,_=>ds=[]
 | a::r,d::ds,x=>q0w a.2 d x.1/\z2r r ds x.2
 | _::_,[],_=>False
theorem j4e {w:World} {A:Nat->Prop}:∀(t:Ty) (get:Nat->Option Value) (x:t.den),RepAt w A t get x->∀c,c<t.size->∃v,get c=some v/\v.oneCell'=true
 | .int k,get,x,h,c,hc=>by
  have:c=0:=by simp[Ty.size]at hc;exact hc
  subst this;exact⟨_,h,rfl⟩
 | .bool,get,x,h,c,hc=>by
  have:c=0:=by simp[Ty.size]at hc;exact hc
  subst this;exact⟨_,h,rfl⟩
 | .list e,get,x,⟨sa,len,cap,h,_⟩,c,hc=>by
  have:c=0:=by simp[Ty.size]at hc;exact hc
  subst this;exact⟨_,h,rfl⟩
 | .nil,get,x,_,c,hc=>by simp[Ty.size]at hc
 | .map _ _ _ _,get,x,h,c,hc=>by
  have:c=0:=by simp[Ty.size]at hc;exact hc
  subst this;obtain⟨b,_,_,h,_⟩:=h;exact⟨_,h,rfl⟩
 | .cons a b,get,x,h,c,hc=>by
  by_cases hca:c<a.size
  ·exact j4e a get x.1 h.1 c hca
  ·obtain⟨v,h1,h2⟩:=j4e b _ x.2 h.2 (c-a.size) (by simp[Ty.size]at hc;omega);exact⟨v,by rw[<-h1];congr 1;omega,h2⟩
variable {w:World} {base:Nat}
theorem k4q {spare:Nat->Bool} {held:Bool} {n b0:Nat} {t:TypeId} {ty:Ty} {agg:Bool} {v:Value} {d:DataW H} {ps:List MemPlace} (hok:q1i P n t ty=true) (hagg:agg=q96 P t) (hval:Value.okWide P w .any b0 t v) (h:DataW.Trod enc P w base spare held t v d ps):∃x:ty.den,RepVal w (λb=>b<w.heap.size) agg ty v x/\Wf ty x/\q0w ty d x:=by
 obtain⟨fuel,hf⟩:=h;obtain⟨hl,x,r1,w1,d1⟩:=v3l fuel n t ty _ _ hok hf;refine⟨x,?_,w1,d1⟩;have hone:=j4e ty _ x r1;cases n with
 | zero=>simp[q1i]at hok
 | succ n =>
  unfold q96 at hagg;unfold Value.okWide at hval;unfold q1i at hok;have flat:agg=false->(v.cells.toList.length=1)->(∀cs,v≠.agg cs)->RepVal w (λb=>b<w.heap.size) agg ty v x:=λha hl1 hv=>by
   subst ha;have hc:v.cells.toList=[v]:=by
    cases v<;>first | rfl | exact absurd rfl (hv _)
   rw[hc]at r1 hone hl;obtain⟨u,hu,ho⟩:=hone 0 (by rw[<-hl];simp);simp at hu;subst hu;refine⟨by rw[<-hl];rfl,ho,RepAt.congr ty _ _ x (λc hc=>?_) r1⟩;have:c=0:=by rw[<-hl]at hc;simpa using hc
   subst this;rfl
  split at hok
  ·rename_i hu;rw[hu]at hagg hval;refine flat hagg (by rw[hl];rfl) (λcs hv=>?_);subst hv;simp[Cell.okWide,hu,Cell.ok]at hval
  ·rename_i hu;rw[hu]at hagg hval;refine flat hagg (by rw[hl];rfl) (λcs hv=>?_);subst hv;simp[Cell.okWide,hu,Cell.ok]at hval
  ·rename_i hu;rw[hu]at hagg hval;refine flat hagg (by rw[hl];rfl) (λcs hv=>?_);subst hv;simp[Cell.okWide,hu,Cell.ok]at hval
  ·rename_i hu;rw[hu]at hagg hval;subst hagg;obtain⟨cs,hv,-,-⟩:=hval;subst hv;refine⟨cs.toList,by simp,hl,λc hc=>?_,r1⟩;obtain⟨i,hi⟩:=bf hc;obtain⟨u,hu,ho⟩:=hone i (by rw[<-hl];exact(ag.1 hi).1);have hi':(Value.agg cs).cells.toList[i]? = some c:=hi;rw[hi']at hu;cases hu;exact ho
  ·cases hok
theorem j78 {w:World} {base:Nat} {spare:Nat->Bool} {held:Bool} {b0:Nat}:∀(ts:List TypeId) (as:List (Bool×Ty)) (vs:List Value) (ds:List (DataW H)) (ps:List MemPlace),q6x P ts as=true->DataW.TrodAll enc P w base spare held ts vs ds ps ->
  (∀(j:Nat) t v,ts[j]? = some t->vs[j]? = some v->Value.okWide P w .any b0 t v)->∃x:F9 as,q0u w (λb=>b<w.heap.size/\¬False) as vs x/\WfA as x/\z2r as ds x
 | [],[],[],[],_,_,_,_=>⟨(),trivial,trivial,rfl⟩
 | [],[],[],_::_,_,_,h,_=>h.elim
 | [],[],_::_,_,_,_,h,_=>h.elim
 | [],_::_,_,_,_,hok,_,_=>by simp[q6x]at hok
 | _::_,[],_,_,_,hok,_,_=>by simp[q6x]at hok
 | _::_,_::_,[],_,_,_,h,_=>h.elim
 | _::_,_::_,_::_,[],_,_,h,_=>h.elim
 | t::ts,(agg,ty)::as,v::vs,d::ds,ps,hok,⟨p,q,h1,h2,_⟩,hval=>by
  simp only[q6x,ac,beq_iff_eq]at hok;obtain⟨x,r1,w1,d1⟩:=k4q hok.1.1 hok.1.2 (hval 0 t v rfl rfl) h1;obtain⟨xs,r2,w2,d2⟩:=j78 ts as vs ds q hok.2 h2 (λj t v hj hv=>hval (j+1) t v (by simpa using hj) (by simpa using hv));exact⟨(x,xs),⟨y4g (λb hb=>⟨hb,λh=>h⟩) r1,r2⟩,⟨w1,w2⟩,d1,d2⟩
theorem j7k {W W':World} (hl:laidOutB P=true) (hb:Below W.heap.size W W'):∀(ts:List TypeId) (vs:List Value) (ds:List (DataW H)) (ps:List MemPlace),ts.all (λt=>P.readableRec t&&decide (t<P.types.size))=true ->
  DataW.TrodAll enc P W 0 (λ_=>true) true ts vs ds ps->(∀x∈ps,x.block<W.heap.size)->DataW.TrodAll enc P W' 0 (λb=>decide (b<W.heap.size)) true ts vs ds ps
 | [],[],[],_,_,h,_=>h
 | [],[],_::_,_,_,h,_=>h.elim
 | [],_::_,_,_,_,h,_=>h.elim
 | _::_,[],_,_,_,h,_=>h.elim
 | _::_,_::_,[],_,_,h,_=>h.elim
 | t::ts,v::vs,d::ds,ps,hts,⟨p,q,h1,h2,h3⟩,hp=>by
  simp only[cp,ac,decide_eq_true_eq]at hts;subst h3;exact⟨p,q,Go.RowKit.Below.trod hl hts.1.1 hts.1.2 h1 hb.kit (λx hx=>hp x (aB _ hx)),j7k hl hb ts vs ds q (by simpa using hts.2) h2 (λx hx=>hp x (aC _ hx)),rfl⟩
theorem j8h:∀(as:List (Bool×Ty)) (ds:List (DataW H)) (x:F9 as),z2r as ds x->ds.length=as.length
 | [],_,_,h=>by rw[show _=[]from h];rfl
 | _::_,[],_,h=>h.elim
 | _::r,_::ds,x,h=>by simp[j8h r ds x.2 h.2]
theorem law_contract {fn:Func} {s:ChangeSpec} {apart fresh handsOn:Bool} {f:FuncId} {as:List (Bool×Ty)} {g:F9 as->Option (J2 [.val false .bool])} {tb:TypeId} (hl:laidOutB P=true) (hts:fn.params.toList.all (λt=>P.readableRec t&&decide (t<P.types.size))=true) (hok:q6x P fn.params.toList as=true) (hvars:s.vars=[]) (hres:fn.resultTypes=#[tb]) (htb:P.underlying tb=some .bool) {gl:W5} (hF:FunOK' P gl f { args:=as,res:=[.val false .bool],f:=g }) {W:World} (hG:GlobOK gl W) {args:Array Value} {ds gs:List (DataW H)} {before:List MemPlace} (hs:ds.length=as.length->s.fn H ds={ results:=[.lit (.bool true)],args:=ds }) (law:∀x,WfA as x->z2r as ds x->g x=some (true,())) (hval:∀(j:Nat) t v,fn.params[j]? = some t->args[j]? = some v->Value.okWide P W .any base t v) (hW:DataW.Whole enc P fn.params.toList s.vars apart W args.toList ds gs before) :
  Calls P f args W λe W'=>∃v,e=.returned v/\s.post enc P fn apart fresh handsOn false W args v W':=by
 have hW':=hW;obtain⟨p,q,hA,hV,hb,-,-⟩:=hW;rw[hvars]at hV;have hgs:gs=[]/\q=[]:=by
  cases gs with
  | nil=>exact⟨rfl,hV⟩
  | cons=>exact hV.elim
 obtain⟨rfl,rfl⟩:=hgs;have hlt:=hA.lt;obtain⟨x,r1,w1,d1⟩:=j78 fn.params.toList as args.toList ds p hok hA (λj t v hj hv=>hval j t v (by simpa using hj) (by simpa using hv));have hg:=law x w1 d1;have hcall:=hF.ok x _ hg (λ_=>False) W args.toList hG (λ_ h=>h.elim) r1 0;rw[show args.toList.toArray=args from by simp]at hcall;have hcalls:Calls P f args W λe w'=>∃v,e=.returned v/\Below W.heap.size W w'/\U4 (λ_=>False) W w' [.val false .bool] v (true,()):=(callsIn_wide (n:=0)).1 hcall;refine hcalls.mono λe W' he=>?_;obtain⟨v,rfl,hbel,bo,vs,hv,hr⟩:=he;have hvv:v=.bool true:=by
  match vs,hr with
  | [u],hr =>
   have:=hr.1.2.2;simp only[RepAt,E6,if_true,aN]at this;rw[hv,this];rfl
 subst hvv;have hsd:=hs (j8h as ds x d1);have hsd':s.fn H (ds++[])={ results:=[.lit (.bool true)],args:=ds }:=by rw[bP];exact hsd
 refine⟨_,rfl,ds,[],before,[],p,[],hW',?_,?_,?_,hbel.kit.frame _,λh=>by cases h⟩
 ·rw[hsd',hres];exact trodAll_mk1 ⟨1,by simp[DataW.trod,Value.cells,htb]⟩
 ·rw[hsd'];exact j7k hl hbel _ _ _ _ hts hA hlt
 ·rw[hsd',hvars];rfl
end Go.Abs
