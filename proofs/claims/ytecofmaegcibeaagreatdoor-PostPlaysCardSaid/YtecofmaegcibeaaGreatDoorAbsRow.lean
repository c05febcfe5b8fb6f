/- The engine, part 22: what a claim reads as data, as plain values. -/
import Derived.Test.YtecofmaegcibeaaGreatDoorAbsTi
import Derived.ProofKit
namespace Go.Abs
open Go Go.RowKit Go.ChangeShapes
variable {P:Program} {w:World} {H:Type} {enc:TypeId×Value->H} {base:Nat} {spare:Nat->Bool} {held:Bool}
def Wf:(t:Ty)->t.den->Prop
 | .int k,x=>(Lit.int k x).wf=true
 | .bool,_=>True
 | .list e,x=>x.length<=maxLen/\∀y∈x,Wf e y
 | .nil,_=>True
 | .cons a b,x=>Wf a x.1/\Wf b x.2
 | .map _ _ _ _,_=>True
def q0w:(t:Ty)->DataW H->t.den->Prop
 | .int k,d,x=>d=.lit (.int k x)
 | .bool,d,x=>d=.lit (.bool x)
 | .list e,d,x=>(d=.nil/\x=[])\/∃es sp,d=.slice es sp/\es.length=x.length/\∀(i:Nat) (d':DataW H) (y:e.den),es[i]? = some d'->x[i]? = some y->q0w e d' y
 | .nil,d,_=>d=.agg []
 | .cons a b,d,x=>∃d1 ds,d=.agg (d1::ds)/\q0w a d1 x.1/\q0w b (.agg ds) x.2
 | .map _ _ _ _,_,_=>False
mutual
def q1i (P:Program):Nat->TypeId->Ty->Bool
 | 0,_,_=>false
 | n+1,t,ty=>match P.underlying t,ty with
  | some (.int k),.int k'=>decide (k=k')
  | some .bool,.bool=>true
  | some (.slice e),.list te=>q1i P n e te&&Nat.beq (P.cellsOf e) te.size&&Nat.ble 1 te.size
  | some (.struct fs),ty=>S4 P n fs.toList 0 ty&&Nat.beq (P.cellsOf t) ty.size
  | _,_=>false
def S4 (P:Program):Nat->List Field->Nat->Ty->Bool
 | 0,_,_,_=>false
 | _+1,[],_,.nil=>true
 | n+1,f::r,off,.cons a b=>Nat.beq f.offset off&&Nat.beq (P.cellsOf f.type) a.size&&q1i P n f.type a&&S4 P n r (off+a.size) b
 | _,_,_,_=>false
end
theorem j6o {a:Addr} (h:a.spot=none) (n:Nat):a.add n=⟨a.block,a.off+n,none⟩:=by
 unfold Addr.add;split
 ·rename_i hn;subst hn;cases a;simp at h ⊢;exact h
 ·rfl
theorem v2j {a:Addr} {v:Value} (h:w.cell? a=some v):a.spot=none/\a.block<w.heap.size:=by
 unfold World.cell? at h;split at h
 ·rename_i c t f hc;split at h
  ·cases h
  ·rename_i hs;exact⟨by simpa using hs,by have:=au.1 hc;exact this.1⟩
 ·cases h
theorem j8i {A:Nat->Prop} {cs:List Value} {g:Field->Option (DataW H×List MemPlace)} (hcs:∀(f:Field) n (a:Ty) x,q1i P n f.type a=true->f.offset+a.size<=cs.length->P.cellsOf f.type=a.size->g f=some x ->
   ∃y:a.den,RepAt w A a (λc=>cs[f.offset+c]?) y/\Wf a y/\q0w a x.1 y) :
  ∀(n:Nat) (l:List Field) (off:Nat) (ty:Ty) (xs:List (DataW H×List MemPlace)),S4 P n l off ty=true->off+ty.size<=cs.length->xs.length=l.length->(∀(i:Nat) (f:Field),l[i]? = some f->g f=xs[i]?) ->
   ∃y:ty.den,RepAt w A ty (λc=>cs[off+c]?) y/\Wf ty y/\q0w ty (.agg (xs.map (·.1))) y
 | 0,_,_,_,_,h,_,_,_=>by simp[S4]at h
 | n+1,[],off,.nil,xs,_,_,hl,_=>by
  have:xs=[]:=aO (by simpa using hl);subst this;exact⟨(),trivial,trivial,rfl⟩
 | n+1,f::r,off,.cons a b,xs,h,hlen,hl,hx=>by
  simp only[S4,ac]at h;obtain⟨⟨⟨h1,h2⟩,h3⟩,h4⟩:=h;have h1:=ab h1;have h2:=ab h2;simp only[Ty.size]at hlen;cases xs with
  | nil=>simp at hl
  | cons x xs =>
   have hx0:=hx 0 f rfl;obtain⟨y1,r1,w1,d1⟩:=hcs f n a x h3 (by omega) h2 (by simpa using hx0);obtain⟨y2,r2,w2,d2⟩:=j8i hcs n r (off+a.size) b xs h4 (by omega) (by simpa using hl) (λi f hf=>by simpa using hx (i+1) f (by simpa using hf));refine⟨(y1,y2),⟨by rw[h1]at r1;exact r1,?_⟩,⟨w1,w2⟩,_,_,rfl,d1,d2⟩;refine RepAt.congr b _ _ y2 (λc _=>?_) r2;show cs[off+a.size+c]? = cs[off+(a.size+c)]?;rw[bT]
 | n+1,[],off,.cons _ _,_,h,_,_,_=>by simp[S4]at h
 | n+1,[],off,.int _,_,h,_,_,_=>by simp[S4]at h
 | n+1,[],off,.bool,_,h,_,_,_=>by simp[S4]at h
 | n+1,[],off,.list _,_,h,_,_,_=>by simp[S4]at h
 | n+1,[],off,.map _ _ _ _,_,h,_,_,_=>by simp[S4]at h
 | n+1,_::_,off,.nil,_,h,_,_,_=>by simp[S4]at h
 | n+1,_::_,off,.int _,_,h,_,_,_=>by simp[S4]at h
 | n+1,_::_,off,.bool,_,h,_,_,_=>by simp[S4]at h
 | n+1,_::_,off,.list _,_,h,_,_,_=>by simp[S4]at h
 | n+1,_::_,off,.map _ _ _ _,_,h,_,_,_=>by simp[S4]at h
theorem v3l:∀(fuel n:Nat) (t:TypeId) (ty:Ty) (cs:List Value) (x:DataW H×List MemPlace),q1i P n t ty=true->DataW.trod enc P w base spare held fuel t cs=some x ->
  cs.length=ty.size/\∃y:ty.den,RepAt w (λb=>b<w.heap.size) ty (λc=>cs[c]?) y/\Wf ty y/\q0w ty x.1 y:=by
 intro fuel
 induction fuel with
 | zero=>intro n t ty cs x _ h;simp[DataW.trod]at h
 | succ m ih =>
  intro n t ty cs x hok h;cases n with
  | zero=>simp[q1i]at hok
  | succ n =>
   unfold q1i at hok;split at hok
   ·rename_i k k' hu;have hk:=of_decide_eq_true hok;subst hk;obtain⟨z,rfl,rfl,hw⟩:=DataW.trod_int hu h;exact⟨rfl,z,rfl,hw,rfl⟩
   ·rename_i hu;obtain⟨b,rfl,rfl⟩:=DataW.trod_bool hu h;exact⟨rfl,b,rfl,trivial,rfl⟩
   ·rename_i e te hu;simp only[ac]at hok;obtain⟨⟨h1,h2⟩,h3⟩:=hok;have h2:=ab h2;have h3:=ao h3;rcases DataW.trod_slice hu h with⟨rfl,rfl⟩ | ⟨a,len,cap,elems,rest,n',hn',rfl,rfl,hb,hlc,hcm,hlen,hel,-,-⟩
    ·exact⟨rfl,[],⟨none,0,0,rfl,rfl,ax _,λh=>absurd rfl h⟩,⟨by simp,λy hy=>by simp at hy⟩,.inl ⟨rfl,rfl⟩⟩
    ·cases hn';have raw:∀i,i<len->∃(cs':List Value) (d:DataW H×List MemPlace),elems[i]? = some d/\cs'.length=te.size/\(∀c,c<te.size->w.cell? ((a.add (i*te.size)).add c)=cs'[c]?)/\DataW.trod enc P w base spare held m e cs'=some d:=by
      intro i hi;have he:=hel i hi;have hd:elems[i]? = some elems[i]:=af (by omega);rw[hd]at he;obtain⟨cs',hc1,hc2⟩:=ae.1 he;obtain⟨_,hcl,hcc⟩:=World.cells?_some hc1;rw[h2]at hcl hcc;exact⟨cs',_,hd,hcl,hcc,hc2⟩
     have spot:0<len->a.spot=none/\a.block<w.heap.size:=λh0=>by
      obtain⟨cs',d,_,hcl,hcc,_⟩:=raw 0 h0;have hc:=hcc 0 (by omega);have hg:cs'[0]? = some cs'[0]:=af (by omega);rw[hg]at hc;have:=v2j hc;simpa[Addr.add]using this
     have each:∀i,i<len->∃(y:te.den) (d:DataW H×List MemPlace),elems[i]? = some d/\RepAt w (λb=>b<w.heap.size) te (λc=>if c<te.size then w.cell? ⟨a.block,a.off+(i*te.size+c),none⟩else none) y/\Wf te y/\q0w te d.1 y:=by
      intro i hi;obtain⟨cs',d,hd,hcl,hcc,htr⟩:=raw i hi;obtain⟨_,y,r1,w1,d1⟩:=ih n e te cs' d h1 htr;refine⟨y,d,hd,RepAt.congr te _ _ y (λc hc=>?_) r1,w1,d1⟩;simp only[hc,if_true];rw[<-hcc c hc,j6o (spot (by omega)).1,j6o rfl,bT]
     have build:∀k,k<=len->∃ys:List te.den,ys.length=k/\∀i,i<k->∃(y:te.den) (d:DataW H×List MemPlace),ys[i]? = some y/\elems[i]? = some d/\RepAt w (λb=>b<w.heap.size) te (λc=>if c<te.size then w.cell? ⟨a.block,a.off+(i*te.size+c),none⟩else none) y/\Wf te y/\q0w te d.1 y:=by
      intro k
      induction k with
      | zero=>intro _;exact⟨[],rfl,λi hi=>by omega⟩
      | succ k ihk =>
       intro hk;obtain⟨ys,l1,l2⟩:=ihk (by omega);obtain⟨y,d,e1,e2⟩:=each k (by omega);refine⟨ys++[y],by simp[l1],λi hi=>?_⟩;by_cases hik:i<k
       ·obtain⟨y',d',g1,g2⟩:=l2 i hik;exact⟨y',d',by rw[aH (by omega)];exact g1,g2⟩
       ·have:i=k:=by omega
        subst this;exact⟨y,d,by rw[aP (by omega),l1,fE];rfl,e1,e2⟩
     obtain⟨ys,l1,l2⟩:=build len (ax _);refine⟨rfl,ys,⟨some a,len,cap,rfl,l1.symm,hlc,λhne=>?_⟩,⟨by omega,λy hy=>?_⟩,.inr ⟨_,_,rfl,by simp[l1,hlen],λi d' y hd hy=>?_⟩⟩
     ·have h0:0<len:=by rw[<-l1];exact fo.2 hne
      obtain⟨s1,s2⟩:=spot h0;refine⟨a.block,a.off,by cases a;simp at s1;subst s1;rfl,s2,λi y hy=>?_⟩;obtain⟨y',d',g1,g2,g3,_⟩:=l2 i (by rw[<-l1];exact(ag.1 hy).1);rw[hy]at g1;cases g1;exact g3
     ·obtain⟨i,hi⟩:=bf hy;obtain⟨y',d',g1,g2,g3,g4,_⟩:=l2 i (by rw[<-l1];exact(ag.1 hi).1);rw[hi]at g1;cases g1;exact g4
     ·obtain⟨y',d'',g1,g2,g3,g4,g5⟩:=l2 i (by rw[<-l1];exact(ag.1 hy).1);rw[hy]at g1;cases g1;rw[bK,g2]at hd;cases hd;exact g5
   ·rename_i _ ty' fs hu;rw[ac]at hok;have hsz:=ab hok.2;obtain⟨xs,n',hn',rfl,hcl,hxl,hx⟩:=DataW.trod_struct hu h;cases hn';have:=j8i (w:=w) (A:=λb=>b<w.heap.size) (cs:=cs) (g:=λf=>DataW.trod enc P w base spare held m f.type ((cs.drop f.offset).take (P.cellsOf f.type))) (λf n a x hok hle hcf htr=>by
     obtain⟨_,y,r1,w1,d1⟩:=ih n f.type a _ x hok htr;refine⟨y,RepAt.congr a _ _ y (λc hc=>?_) r1,w1,d1⟩;rw[dK,if_pos (by omega),aT]) n fs.toList 0 _ xs hok.1 (by omega) (by simpa using hxl) (λi f hf=>hx i f (by simpa using hf))
    obtain⟨y,r1,w1,d1⟩:=this;refine⟨by omega,y,?_,w1,d1⟩;simpa using r1
   ·cases hok
end Go.Abs
