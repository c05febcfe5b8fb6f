/- The engine, part 10: struct and slice literals, make, lengths. -/
import Derived.Test.YtkfjlcdaepckoaaAbsSound6
import Derived.Great.BuildSlice
namespace Go.Abs
open Go Go.RowKit Go.Great
variable {P:Program} {L:Nat->Prop} {w0:World}
theorem j6f {cells:Array Value} {off:Nat} {us:List Value} (h:off+us.length<=cells.size) :
  (us.toArray.zipIdx.foldl (fun cs (c,j)=>cs.setIfInBounds (off+j) c) cells)=(D2 cells.toList off us).toArray:=by
 rw[<-Array.foldl_toList,Array.toList_zipIdx]
 obtain⟨h1,h2⟩:=foldl_set off us 0 cells
 apply Array.ext_getElem?
 intro k
 have h2':=h2 k
 have hr:(D2 cells.toList off us).toArray[k]? = if k<off then cells.toList[k]? else if k<off+us.length then us[k-off]? else cells.toList[k]?:=by
  rw[List.getElem?_toArray,q18 _ _ _ (by simpa using h)]
 rw[hr]
 refine Eq.trans h2' ?_
 simp only[Nat.add_zero]
 by_cases k1:k<off
 ·rw[if_neg (by omega),if_pos k1];simp
 ·rw[if_neg k1]
  by_cases k2:k<off+us.length
  ·rw[if_pos ⟨by omega,k2,by omega⟩,if_pos k2]
  ·rw[if_neg (by omega),if_neg k2];simp
theorem z1j {κ:A2} {h:Heap} {w:World} {ρ:Env} {a:Act} (hev:∀ x,RepAV L κ h w (ev ρ x) (a.eval x)) {flds:List FI} {place:Nat->Option (Nat×Nat)}
  (hp:∀ (i:Nat) (fi:FI),flds[i]? = some fi->place i=some (fi.off,fi.size)):∀ (parts:List (Nat×Operand)) (cs:List SV) (us:List Value) (cs':List SV),RepCells L κ h w cs us ->
  S3 flds (ev ρ) parts cs=some cs'->∃ us':List Value,Instr.fill place us.toArray (parts.map fun(i,x)=>(i,a.eval x))=some us'.toArray/\RepCells L κ h w cs' us'
 | [],cs,us,cs',hc,hf=>by
  simp only[S3,Option.some.injEq]at hf
  subst hf
  exact⟨us,rfl,hc⟩
 | (i,x)::r,cs,us,cs',hc,hf=>by
  simp only[S3]at hf
  split at hf
  ·rename_i fi vs hfi hvs
   cases hg:(Nat.beq vs.length fi.size&&vs.all SV.known&&Nat.ble (fi.off+vs.length) cs.length)with
   | false=>rw[hg]at hf;cases hf
   | true =>
    rw[hg,cond_true]at hf
    simp only[Bool.and_eq_true]at hg
    obtain⟨⟨g1,g2⟩,g3⟩:=hg
    have g1:=Nat.eq_of_beq_eq_true g1
    have g3:=Nat.le_of_ble_eq_true g3
    obtain⟨vv,hv1,hv2⟩:=q3c (hev x) hvs g2
    have hlen:fi.off+vv.length<=us.length:=by rw[hv2.1,hc.1];exact g3
    obtain⟨us',h1,h2⟩:=z1j hev hp r (D2 cs fi.off vs) (D2 us fi.off vv) cs' (z3m hc hv2 g3) hf
    refine⟨us',?_,h2⟩
    simp only[List.map_cons,Instr.fill,hp i fi hfi,hv1,List.size_toArray]
    rw[if_neg (by simp[hv2.1,g1];rw[hc.1,<-g1];exact g3),j6f (by simpa using hlen)]
    simpa using h1
  ·cases hf
theorem j9n {ti:TInfo} {fs:Array Field} (hsz:fs.size=ti.flds.length)
  (hall:∀ (f:Nat) (fi:FI),ti.flds[f]? = some fi->∃ fd i' d',fs[f]? = some fd/\fd.offset=fi.off/\P.info? fd.type=some i'/\i'.size=fi.size/\P.underlying fd.type=some d'/\P7 d'=fi.agg) :
  ∃ places:List (Nat×Nat),fs.toList.mapM (fun f=>(P.info? f.type).map fun i=>(f.offset,i.size))=some places/\∀ (i:Nat) (fi:FI),ti.flds[i]? = some fi->places.toArray[i]? = some (fi.off,fi.size):=by
 have conv:∀ (l:List Field) (k:List FI),l.length=k.length->(∀ (j:Nat) (fi:FI),k[j]? = some fi->∃ fd i',l[j]? = some fd/\fd.offset=fi.off/\P.info? fd.type=some i'/\i'.size=fi.size) ->
   l.mapM (fun f=>(P.info? f.type).map fun i=>(f.offset,i.size))=some (k.map fun fi=>(fi.off,fi.size)):=by
  intro l
  induction l with
  | nil=>intro k hk _;cases k with
   | nil=>rfl
   | cons a b=>simp at hk
  | cons f l ih =>
   intro k hk h
   cases k with
   | nil=>simp at hk
   | cons fi k =>
    obtain⟨fd,i',h1,h2,h3,h4⟩:=h 0 fi rfl
    simp at h1;subst h1
    have h5:=ih k (by simpa using hk) (fun j fi hj=>h (j+1) fi (by simpa using hj))
    simp only[List.mapM_cons,h3,h5,Option.map_some,Option.bind_eq_bind,Option.bind_some,Option.pure_def,List.map_cons,h2,h4]
 refine⟨_,conv fs.toList ti.flds (by simpa using hsz) (fun j fi hj=>?_),fun i fi hi=>?_⟩
 ·obtain⟨fd,i',d',h1,h2,h3,h4,-⟩:=hall j fi hj
  exact⟨fd,i',by simpa using h1,h2,h3,h4⟩
 ·simp[hi]
theorem y1b {o:Oper} {T:TypeId} {parts:Array (Nat×Operand)} {ti:TInfo} (hti:ti.OK P T) (hstr:ti.str=true) (ho:o.op=.build T parts) {ρs:Env} {cs:List SV}
  (hf:S3 ti.flds (ev ρs) parts.toList ti.zeros=some cs) (hs:Heap):A6 P L w0 o ρs hs hs (.agg cs):=by
 refine C6 (fun c hc=>by rw[ho]at hc;cases hc) fun κ a w hev ok=>?_
 obtain⟨i,z,hi,hisz,hiby,hiz,hzs,hzl,hrep,hone⟩:=hti.zero_one (L:=L)
 obtain⟨-,d,hd,hda,-,-,hfl⟩:=hti.base
 obtain⟨fs,hfs,hsz,hall⟩:=hfl hstr
 obtain⟨places,hpl,hplace⟩:=j9n hsz hall
 obtain⟨us,h1,h2⟩:=z1j hev (place:=(places.toArray[·]?)) hplace parts.toList ti.zeros z.cells.toList cs (hrep κ hs w) hf
 refine⟨.agg us.toArray,?_,us,rfl,h2⟩
 have hb:P.built T (parts.map fun(i,x)=>(i,a.eval x)).toList=some us.toArray:=by
  unfold Program.built
  rw[hi,hd,hfs]
  simp only[hiz,hpl]
  simpa using h1
 unfold execOp
 simp only[ho,Sem.run_bind,run_build w T _ _ hb,Result.andThen_ok,Sem.run_pure]
theorem y1c {o:Oper} {T:TypeId} {parts:Array (Nat×Operand)} {ti:TInfo} (hti:ti.OK P T) {n:Nat} {e:TypeId} (harr:ti.arr=some (n,e)) (ho:o.op=.build T parts) {ρs:Env} {cs:List SV}
  (hf:S3 ti.flds (ev ρs) parts.toList ti.zeros=some cs) (hs:Heap):A6 P L w0 o ρs hs hs (.agg cs):=by
 refine C6 (fun c hc=>by rw[ho]at hc;cases hc) fun κ a w hev ok=>?_
 obtain⟨i,z,hi,hisz,hiby,hiz,hzs,hzl,hrep,hone⟩:=hti.zero_one (L:=L)
 obtain⟨hd,ie,de,hie,-,hfl⟩:=hti.arrT n e harr
 obtain⟨us,h1,h2⟩:=z1j hev (place:=fun i=>some (i*ie.size,ie.size)) (fun j fi hj=>by rw[(hfl j fi hj).1,(hfl j fi hj).2]) parts.toList ti.zeros z.cells.toList cs (hrep κ hs w) hf
 refine⟨.agg us.toArray,?_,us,rfl,h2⟩
 have hb:P.built T (parts.map fun(i,x)=>(i,a.eval x)).toList=some us.toArray:=by
  unfold Program.built
  rw[hi,hd]
  simp only[hiz,hie]
  simpa using h1
 unfold execOp
 simp only[ho,Sem.run_bind,run_build w T _ _ hb,Result.andThen_ok,Sem.run_pure]
theorem q2p {t:Ty}:∀ {cs:List SV} {l:List t.den},T1 t cs=some l->cs.length=l.length/\∀ (j:Nat) (y:t.den),l[j]? = some y->cs[j]? = some (.sc t y)
 | [],l,h=>by cases h;exact⟨rfl,fun j y hy=>by simp at hy⟩
 | s::r,l,h=>by
  cases s with
  | sc t' x =>
   simp only[T1]at h
   split at h
   ·rename_i y l' hy hl'
    cases h
    obtain⟨e,hx⟩:=G4 hy
    cases e
    change x=y at hx
    subst hx
    obtain⟨h1,h2⟩:=q2p hl'
    refine⟨by simp[h1],fun j y hj=>?_⟩
    cases j with
    | zero=>simp at hj;subst hj;rfl
    | succ j=>exact h2 j y (by simpa using hj)
   ·cases h
  | _=>simp[T1]at h
theorem y20 {o:Oper} {T e:TypeId} {x i:Operand} {n:Nat} {ti te:TInfo} (hti:ti.OK P T) (harr:ti.arr=some (n,e)) (hte:te.OK P e) (hagg:te.agg=false) (hsz:te.size=1) (ho:o.op=.index T x i) {ρs:Env} {cs:List SV} {l:List te.ty.den} {kk:IntKind} {k:Int} {y:te.ty.den}
  (hx:ev ρs x=.agg cs) (hi:ev ρs i=.one (.sc (.int kk) k)) (hl:T1 te.ty cs=some l) (hlen:cs.length=n) (hy:A9 l k=some y) (hs:Heap):A6 P L w0 o ρs hs hs (.one (.sc te.ty y)):=by
 refine C6 (fun c hc=>by rw[ho]at hc;cases hc) fun κ a w hev ok=>?_
 have hxv:=hev x
 rw[hx]at hxv
 obtain⟨us,hv,hus⟩:=hxv
 have hiv:=hev i
 rw[hi]at hiv
 obtain⟨hd,ie,de,hie,hde,-⟩:=hti.arrT n e harr
 obtain⟨⟨i2,z2,hi2,hisz2,-⟩,d2,hd2,hagg2,-⟩:=hte.base
 rw[hie]at hi2;cases hi2
 obtain⟨g1,g2⟩:=q2p hl
 unfold A9 at hy
 obtain⟨hk0,hy⟩:=(show decide (0<=k)=true/\l[k.toNat]? = some y by
  cases hq:decide (0<=k)with
  | true=>rw[hq,cond_true]at hy;exact⟨rfl,hy⟩
  | false=>rw[hq]at hy;cases hy)
 have hk0:=of_decide_eq_true hk0
 have hlt:=(List.getElem?_eq_some_iff.1 hy).1
 obtain⟨c,hc,hrep,_⟩:=V0 hus (g2 _ y hy)
 refine⟨c,?_,hrep⟩
 have hkn:k<(n:Int):=by rw[<-hlen,g1];omega
 unfold execOp
 simp only[ho,hv,G2 hiv,Instr.index,asIntOf,Sem.run_bind,Sem.run_pure,Result.andThen_ok,run_underlying hd]
 rw[if_pos ⟨hk0,hkn⟩]
 simp only[part,Sem.run_bind,Result.andThen_ok,O6 hie,Y0 hd2,hagg2,hagg,Bool.false_eq_true,if_false,hisz2,hsz,Nat.mul_one]
 simp[hc]
theorem j7l {h:Heap} {e:Ty} {s:SV} {l:List e.den} (hl:B5 (fun _=>.fresh) e s=some l):B5 h e s=some l/\F7 s=[]:=by
 cases s with
 | own id=>cases hl
 | sub id o n=>cases hl
 | mp id=>cases hl
 | _=>exact⟨hl,rfl⟩
theorem j7w {h:Heap} {ak av:Bool} {k v:Ty} {s:SV} {l:List (k.den×v.den)} (hl:L5 (fun _=>.fresh) ak av k v s=some l):L5 h ak av k v s=some l/\F7 s=[]:=by
 cases s with
 | own id=>cases hl
 | sub id o n=>cases hl
 | mp id=>cases hl
 | _=>exact⟨hl,rfl⟩
theorem z3t {h:Heap}:∀ (t:Ty) (cs:List SV) (y:t.den) (r:List SV),C4 (fun _=>.fresh) t cs=some (y,r)->C4 h t cs=some (y,r)/\∃ p,cs=p++r/\E5 p=[]
 | .int k,cs,y,r,hd=>by
  cases cs with
  | nil=>simp[C4]at hd
  | cons s q =>
   cases s with
   | sc t z =>
    obtain⟨h1,rfl⟩:=Q6 hd
    exact⟨hd,[.sc t z],rfl,rfl⟩
   | _=>simp[C4]at hd
 | .bool,cs,y,r,hd=>by
  cases cs with
  | nil=>simp[C4]at hd
  | cons s q =>
   cases s with
   | sc t z =>
    obtain⟨h1,rfl⟩:=Q6 hd
    exact⟨hd,[.sc t z],rfl,rfl⟩
   | _=>simp[C4]at hd
 | .list e,cs,y,r,hd=>by
  cases cs with
  | nil=>simp[C4]at hd
  | cons s q =>
   simp only[C4]at hd ⊢
   obtain⟨h1,rfl⟩:=Q6 hd
   obtain⟨h2,h3⟩:=j7l (h:=h) h1
   rw[h2]
   exact⟨rfl,[s],rfl,by simp[E5,h3]⟩
 | .map ak av k v,cs,y,r,hd=>by
  cases cs with
  | nil=>simp[C4]at hd
  | cons s q =>
   simp only[C4]at hd ⊢
   obtain⟨h1,rfl⟩:=Q6 hd
   obtain⟨h2,h3⟩:=j7w (h:=h) h1
   rw[h2]
   exact⟨rfl,[s],rfl,by simp[E5,h3]⟩
 | .nil,cs,y,r,hd=>by
  simp only[C4,Option.some.injEq,Prod.mk.injEq]at hd ⊢
  exact⟨hd,[],hd.2,rfl⟩
 | .cons a b,cs,y,r,hd=>by
  simp only[C4]at hd ⊢
  split at hd
  ·rename_i x1 r1 hx1
   split at hd
   ·rename_i x2 r2 hx2
    cases hd
    obtain⟨h1,p1,e1,o1⟩:=z3t (h:=h) a cs x1 r1 hx1
    obtain⟨h2,p2,e2,o2⟩:=z3t (h:=h) b r1 x2 r hx2
    rw[h1]
    simp only[h2]
    refine⟨trivial,p1++p2,by rw[List.append_assoc,<-e2,e1],?_⟩
    unfold E5 at o1 o2 ⊢
    rw[List.flatMap_append,o1,o2];rfl
   ·cases hd
  ·cases hd
theorem j0j {t:Ty}:∀ {n:Nat} {cs:List SV} {l:List t.den},q51 t n cs=some l->l.length=n/\∀ (j:Nat) (y:t.den),l[j]? = some y->C4 (fun _=>.fresh) t ((cs.drop (j*t.size)).take t.size)=some (y,[])
 | 0,[],l,h=>by cases h;exact⟨rfl,fun j y hy=>by simp at hy⟩
 | 0,_::_,l,h=>by cases h
 | n+1,cs,l,h=>by
  simp only[q51]at h
  split at h
  ·rename_i y hy
   obtain⟨l',hl',rfl⟩:=Option.map_eq_some_iff.1 h
   obtain⟨h1,h2⟩:=j0j hl'
   refine⟨by simp[h1],fun j z hj=>?_⟩
   cases j with
   | zero=>simp at hj;subst hj;rw[Nat.zero_mul,List.drop_zero];exact hy
   | succ j =>
    have:=h2 j z (by simpa using hj)
    rw[List.drop_drop]at this
    rw[Nat.add_mul,Nat.one_mul,Nat.add_comm];exact this
  ·cases h
theorem y1z {o:Oper} {T e:TypeId} {x i:Operand} {n:Nat} {ti te:TInfo} (hti:ti.OK P T) (harr:ti.arr=some (n,e)) (hte:te.OK P e) (hagg:te.agg=true) (hsz:te.size=te.ty.size) (ho:o.op=.index T x i) {ρs:Env} {cs:List SV} {l:List te.ty.den} {kk:IntKind} {k:Int} {y:te.ty.den}
  (hx:ev ρs x=.agg cs) (hi:ev ρs i=.one (.sc (.int kk) k)) (hl:q51 te.ty n cs=some l) (hy:A9 l k=some y) (hs:Heap):A6 P L w0 o ρs hs hs (.agg (F6 te.ty y)):=by
 refine C6 (fun c hc=>by rw[ho]at hc;cases hc) fun κ a w hev ok=>?_
 have hxv:=hev x
 rw[hx]at hxv
 obtain⟨us,hv,hus⟩:=hxv
 have hiv:=hev i
 rw[hi]at hiv
 obtain⟨hd,ie,de,hie,hde,-⟩:=hti.arrT n e harr
 obtain⟨⟨i2,z2,hi2,hisz2,-⟩,d2,hd2,hagg2,-⟩:=hte.base
 rw[hie]at hi2;cases hi2
 obtain⟨g1,g2⟩:=j0j hl
 unfold A9 at hy
 obtain⟨hk0,hy⟩:=(show decide (0<=k)=true/\l[k.toNat]? = some y by
  cases hq:decide (0<=k)with
  | true=>rw[hq,cond_true]at hy;exact⟨rfl,hy⟩
  | false=>rw[hq]at hy;cases hy)
 have hk0:=of_decide_eq_true hk0
 have hlt:=(List.getElem?_eq_some_iff.1 hy).1
 have hkn:k<(n:Int):=by omega
 obtain⟨t1,p,hp,po⟩:=z3t (h:=hs) _ _ _ _ (g2 _ y hy)
 rw[List.append_nil]at hp
 have hrep:=R3 (L:=L) (w0:=w0) ok (Ext.refl L κ hs w) te.ty _ (fun c=>((us.drop (k.toNat*te.ty.size)).take te.ty.size)[c]?) y [] (fun j s hj=>by
  have hj2:=(List.getElem?_eq_some_iff.1 hj).1
  rw[List.length_take,List.length_drop]at hj2
  have hlt2:j<te.ty.size:=by omega
  rw[List.getElem?_take_of_lt hlt2,List.getElem?_drop]at hj
  obtain⟨c,hc,r1,r2⟩:=V0 hus hj
  exact⟨c,by show((us.drop (k.toNat*te.ty.size)).take te.ty.size)[j]? = _;rw[List.getElem?_take_of_lt hlt2,List.getElem?_drop];exact hc,r1,r2⟩) (fun id hid=>by rw[hp,po]at hid;cases hid) t1
 obtain⟨r1,-,r3⟩:=hrep
 have hulen:((us.drop (k.toNat*te.ty.size)).take te.ty.size).length=te.ty.size:=by
  rw[List.length_take,List.length_drop]at r1 ⊢
  rw[hus.1];omega
 refine⟨.agg ((us.drop (k.toNat*te.ty.size)).take te.ty.size).toArray,?_,(us.drop (k.toNat*te.ty.size)).take te.ty.size,rfl,by rw[hulen,P1],fun j s c hj hc=>?_⟩
 ·unfold execOp
  simp only[ho,hv,G2 hiv,Instr.index,asIntOf,Sem.run_bind,Sem.run_pure,Result.andThen_ok,run_underlying hd]
  rw[if_pos ⟨hk0,hkn⟩]
  simp only[part,Sem.run_bind,Result.andThen_ok,O6 hie,Y0 hd2,hagg2,hagg,if_true,hisz2,hsz,Sem.run_pure]
  congr 4
  apply Array.toList_inj.1
  simp[List.extract_eq_take_drop]
 ·obtain⟨v,h1,h2,h3⟩:=S0 te.ty _ y r3 j s hj
  have h1:((us.drop (k.toNat*te.ty.size)).take te.ty.size)[j]? = some v:=h1
  rw[hc]at h1;cases h1
  exact⟨h2,h3⟩
theorem z82 {κ:A2} {h h':Heap} {w w':World} {ρ:Env} {a:Act} (ok:HeapOK L w0 κ h w) (x:Ext L κ h w κ h' w') (hev:∀ x,RepAV L κ h w (ev ρ x) (a.eval x)) {t:Ty} (hpos:0<t.size) :
  ∀ (parts:List (Nat×Operand)) (n:Nat) (l:List t.den) (ids:List Nat),X5 h t (ev ρ) n parts=some (l,ids) ->
  (∀ id∈ids,q1i (h id)->∀ b c,κ id=some (b,c)->A4 L κ h' w' b/\w'.heap[b]? = w.heap[b]?) ->
  parts.map (fun(i,x)=>(i,a.eval x))=(((parts.map fun q=>a.eval q.2).zipIdx n).map fun x=>(x.2,x.1))/\l.length=parts.length /\
  (∀ v∈parts.map (fun q=>a.eval q.2),v.cells.size=t.size/\∀ c∈v.cells.toList,c.oneCell'=true) /\
  ∀ (i:Nat) (y:t.den),l[i]? = some y->∃ v,(parts.map fun q=>a.eval q.2)[i]? = some v/\RepAt w' (A4 L κ h' w') t (fun c=>if c<t.size then v.cells[c]? else none) y
 | [],n,l,ids,hl,_=>by
  simp only[X5,Option.some.injEq,Prod.mk.injEq]at hl
  obtain⟨rfl,rfl⟩:=hl
  exact⟨rfl,rfl,fun v hv=>by simp at hv,fun i y hy=>by simp at hy⟩
 | (i,q)::r,n,l,ids,hl,hid=>by
  simp only[X5]at hl
  cases hin:Nat.beq i n with
  | false=>rw[hin]at hl;cases hl
  | true =>
   rw[hin,cond_true]at hl
   have hin:=Nat.eq_of_beq_eq_true hin
   subst hin
   split at hl
   ·rename_i vs hvs
    cases hkn:vs.all SV.known with
    | false=>rw[hkn]at hl;cases hl
    | true=>?_
    rw[hkn,cond_true]at hl
    split at hl
    ·rename_i y l' ids' hy hl'
     simp only[Option.some.injEq,Prod.mk.injEq]at hl
     obtain⟨rfl,rfl⟩:=hl
     obtain⟨us,hus,hrep⟩:=q3c (hev q) hvs hkn
     obtain⟨h1,h2,h3⟩:=R3 ok x t vs (fun c=>us[c]?) y [] (fun j s hj=>V0 hrep hj) (fun id hm=>hid id (List.mem_append_left _ hm)) hy
     have hsz:us.length=t.size:=by
      rw[hrep.1]
      have:=congrArg List.length h2
      simp at this;omega
     obtain⟨i1,i2,i3,i4⟩:=z82 ok x hev hpos r (i+1) l' ids' hl' (fun id hm=>hid id (List.mem_append_right _ hm))
     refine⟨?_,by simp[i2],fun v hv=>?_,fun j u hu=>?_⟩
     ·simp only[List.map_cons,List.zipIdx_cons]
      rw[i1]
     ·rcases List.mem_cons.1 hv with rfl | hv
      ·rw[hus];exact⟨by simpa using hsz,by simpa using q2m hrep⟩
      ·exact i3 v hv
     ·cases j with
      | zero =>
       simp at hu;subst hu
       refine⟨a.eval q,rfl,RepAt.congr t _ _ y (fun c hc=>?_) h3⟩
       simp only[hc,if_true,hus,List.getElem?_toArray]
      | succ j=>simp only[List.getElem?_cons_succ]at hu;exact i4 j u hu
    ·cases hl
   ·cases hl
theorem y1d {o:Oper} {T e:TypeId} {len:Nat} {parts:Array (Nat×Operand)} {ti te:TInfo} (hti:ti.OK P T) (hel:ti.elem=some e) (hte:te.OK P e) (ho:o.op=.buildSlice T len parts) {ρs:Env} {hs:Heap} {id':Nat} (hf:hs id'=.fresh)
  {l:List te.ty.den} {ids:List Nat} (hl:X5 hs te.ty (ev ρs) 0 parts.toList=some (l,ids)) (hlen:l.length=len) (hbig:len*te.size<=16777216) (hpos:1<=te.size) (hsz:te.ty.size=te.size)
  (hni:id'∉ids) :
  A6 P L w0 o ρs hs (A5 (B0 hs ids++[(id',.arr e te.ty l)]) hs) (.one (.own id')):=by
 refine I3 (fun c hc=>by rw[ho]at hc;cases hc) fun κ a w hev ok=>?_
 obtain⟨i,z,hi,hisz,hiby,hiz,hzs,-,-,hz1⟩:=hte.zero_one (L:=L)
 have hu:=W8 hti hel
 obtain⟨okI,extI,freeI⟩:=S6 ids ok
 obtain⟨h1,h2,h3,h4⟩:=z82 ok extI hev (by omega) parts.toList 0 l ids hl (fun id hm hh b c hk=>⟨freeI id hm hh b c hk,rfl⟩)
 have hfI:A5 (B0 hs ids) hs id'=.fresh:=(S5 hni).trans hf
 let vs:=parts.toList.map fun q=>a.eval q.2
 have hvl:vs.length=len:=by simp only[vs,List.length_map];rw[<-h2];exact hlen
 have hfl:∀ k,(vs.flatMap fun v=>v.cells.toList)[k]? = (vs[k / te.ty.size]?).bind (fun v=>v.cells[k % te.ty.size]?):=flat_get (by omega) vs (fun v hv=>(h3 v hv).1)
 have hlf:(vs.flatMap fun v=>v.cells.toList).length=vs.length*te.ty.size:=by
  have:∀ (us:List Value),(∀ v∈us,v.cells.size=te.ty.size)->(us.flatMap fun v=>v.cells.toList).length=us.length*te.ty.size:=by
   intro us
   induction us with
   | nil=>intro _;simp
   | cons u us ih=>intro hh;simp only[List.flatMap_cons,List.length_append,Array.length_toList,hh u List.mem_cons_self,ih (fun v hv=>hh v (List.mem_cons_of_mem _ hv)),List.length_cons,Nat.succ_mul];omega
  exact this vs (fun v hv=>(h3 v hv).1)
 have hrun:(Instr.buildSlice T len (parts.map fun(i,x)=>(i,a.eval x))).run P w=.ok (.slice (some ⟨w.heap.size,0,none⟩) len len) (w.alloc (.cells (vs.flatMap fun v=>v.cells.toList).toArray e)):=by
  have hfill:∀ cells:Array Value,vs.length*i.size=cells.size->Instr.fill (fun j=>some (j*i.size,i.size)) cells (parts.map fun(i,x)=>(i,a.eval x)).toList=some (vs.flatMap fun v=>v.cells.toList).toArray:=by
   intro cells hcs
   have hf':=fill_whole (s:=i.size) (by omega) vs cells (fun v hv=>by rw[(h3 v hv).1,hisz,hsz]) hcs
   rw[Array.toList_map,h1]
   exact hf'
  by_cases h0:len=0
  ·have hv0:vs=[]:=List.eq_nil_of_length_eq_zero (by omega)
   have hp0:parts.toList=[]:=by simpa[vs]using hv0
   rw[hv0]
   simp only[Instr.buildSlice,Sem.run_bind,run_underlying hu,O6 hi,Result.andThen_ok,h0,Nat.zero_mul]
   simp[newRow,hp0,Instr.fill]
   have hr0:∀ f:Nat->Value,Array.map f (Array.range 0)=#[]:=fun f=>by apply Array.toList_inj.1;simp
   rw[hr0]
  ·exact run_buildSlice w T e len _ _ i z hu hi hiz (by rw[hisz];omega) (by rw[hisz];exact Nat.mul_ne_zero h0 (by omega)) (hfill _ (by simp[hvl]))
 have hx:=N4 (L:=L) (κ:=κ) (h:=A5 (B0 hs ids) hs) (w:=w) (.cells (vs.flatMap fun v=>v.cells.toList).toArray e) (AObj.arr e te.ty l) (len,0) hfI
 have hap:A5 (B0 hs ids++[(id',.arr e te.ty l)]) hs=upd (A5 (B0 hs ids) hs) id' (.arr e te.ty l):=by rw[J8];rfl
 rw[hap]
 refine⟨_,.slice (some ⟨w.heap.size,0,none⟩) len len,w.alloc (.cells (vs.flatMap fun v=>v.cells.toList).toArray e),?_,S4 okI _ _ (len,0) hfI (z9w (A1 _ _ _) (heap_alloc_new w _) ?_ ?_ ?_ ?_ ?_),⟨?_,rfl⟩,extI.trans hx⟩
 ·unfold execOp
  simp only[ho,Sem.run_bind,hrun,Result.andThen_ok,Sem.run_pure]
 ·rw[hlf,hvl]
 ·have:len<=len*te.size:=Nat.le_mul_of_pos_right _ (by omega)
  simp only[maxLen];omega
 ·omega
 ·intro u hu
  obtain⟨v,hv,huv⟩:=List.mem_flatMap.1 hu
  exact(h3 v hv).2 u huv
 ·intro j y hy
  obtain⟨v,hv1,hv2⟩:=h4 j y hy
  refine RepAt.congr te.ty _ _ y (fun c hc=>?_) (RepAt.ext hx hv2)
  simp only[hc,if_true]
  have hv1':vs[j]? = some v:=hv1
  have e1:(j*te.ty.size+c) / te.ty.size=j:=by
   rw[Nat.add_comm,Nat.add_mul_div_right _ _ (by omega),Nat.div_eq_of_lt hc];omega
  have e2:(j*te.ty.size+c) % te.ty.size=c:=by
   rw[Nat.add_comm,Nat.add_mul_mod_self_right,Nat.mod_eq_of_lt hc]
  rw[hfl,e1,e2,hv1'];rfl
 ·rw[A1]
  exact .inr ⟨w.heap.size,(len,0),A1 _ _ _,by rw[hlen]⟩
theorem y2c {o:Oper} {T e:TypeId} {x y:Operand} {ti te:TInfo} (hti:ti.OK P T) (hel:ti.elem=some e) (hte:te.OK P e) (ho:o.op=.makeSlice T x y) {ρs:Env} {hs:Heap} {id':Nat} (hf:hs id'=.fresh) {n c:Int}
  (hx:ev ρs x=.one (.sc (.int .i64) n)) (hy:ev ρs y=.one (.sc (.int .i64) c)) {z:te.ty.den} (hz:C4 hs te.ty te.zeros=some (z,[])) (h0:0<=n) (hnc:n<=c) (hroom:C1 c.toNat te.bytes=true) (hc:c<=9223372036854775807)
  (hpos:1<=te.size) (hsz:te.ty.size=te.size) (hzo:E5 te.zeros=[]):A6 P L w0 o ρs hs (upd hs id' (.arr e te.ty (List.replicate n.toNat z))) (.one (.own id')):=by
 refine I3 (fun c hc=>by rw[ho]at hc;cases hc) fun κ a w hev ok=>?_
 obtain⟨i,zv,hi,hisz,hiby,hiz,hzs,hzl,hrep,hz1⟩:=hte.zero_one (L:=L)
 have hu:=W8 hti hel
 have hxv:=hev x
 rw[hx]at hxv
 have hyv:=hev y
 rw[hy]at hyv
 obtain⟨hb1,hb2⟩:=q4z hroom
 have hrun:=run_make (P:=P) w T e i zv hu hi hiz .i64 .i64 n c h0 hnc (by
  rw[hiby]
  have h:=Int.ofNat_le.2 hb2
  rw[Int.natCast_mul,Int.toNat_of_nonneg (by omega),Int.mul_comm]at h
  exact Int.le_trans h (by decide)) hc
 have hxt:=N4 (L:=L) (κ:=κ) (h:=hs) (w:=w) (.cells (madeCells zv.cells (c.toNat*i.size)) e) (AObj.arr e te.ty (List.replicate n.toNat z)) (c.toNat,0) hf
 obtain⟨-,-,hzr⟩:=R3 ok (Ext.refl _ _ _ _) te.ty te.zeros (fun j=>zv.cells[j]?) z [] (fun j s hj=>by
  have:=V0 (hrep κ hs w) hj;simpa using this) (fun id hm=>by rw[hzo]at hm;cases hm) hz
 have hget:∀ j,j<c.toNat*i.size->(madeCells zv.cells (c.toNat*i.size))[j]? = zv.cells[j % i.size]?:=by
  intro j hj
  have hm:j % zv.cells.size<zv.cells.size:=Nat.mod_lt _ (by rw[hzs];omega)
  simp only[madeCells,Array.getElem?_map,Array.getElem?_range,hj,if_true,Option.map_some]
  rw[getElem!_pos zv.cells _ hm,<-Array.getElem?_eq_getElem hm,hzs,hisz]
 refine⟨_,.slice (some ⟨w.heap.size,0,none⟩) n.toNat c.toNat,_,?_,S4 ok _ _ (c.toNat,0) hf (z9w (cs:=(madeCells zv.cells (c.toNat*i.size)).toList) (A1 _ _ _) (by simpa using heap_alloc_new w _) ?_ ?_ ?_ ?_ ?_),⟨?_,rfl⟩,hxt⟩
 ·unfold execOp
  simp only[ho,G2 hxv,G2 hyv,Sem.run_bind,hrun,Result.andThen_ok,Sem.run_pure]
 ·rw[Array.length_toList,size_madeCells,hisz,hsz]
 ·simp only[maxLen];omega
 ·simp;omega
 ·intro u hu
  obtain⟨j,hj⟩:=List.getElem?_of_mem hu
  have hjl:j<c.toNat*i.size:=by
   have:=(List.getElem?_eq_some_iff.1 hj).1
   rw[Array.length_toList,size_madeCells]at this;exact this
  rw[Array.getElem?_toList,hget j hjl]at hj
  exact hz1 u (List.mem_of_getElem? (by simpa using hj))
 ·intro j y hy
  have hjl:j<n.toNat:=by have:=(List.getElem?_eq_some_iff.1 hy).1;simpa using this
  rw[List.getElem?_replicate,if_pos hjl]at hy
  cases hy
  refine RepAt.congr te.ty _ _ z (fun q hq=>?_) (RepAt.ext hxt hzr)
  simp only[hq,if_true,Array.getElem?_toList]
  have h3:(j+1)*te.ty.size<=c.toNat*te.ty.size:=Nat.mul_le_mul_right _ (by omega)
  rw[Nat.succ_mul]at h3
  have e2:(j*te.ty.size+q) % i.size=q:=by
   rw[hisz,<-hsz,Nat.add_comm,Nat.add_mul_mod_self_right,Nat.mod_eq_of_lt hq]
  rw[hget _ (by rw[hisz,<-hsz];omega),e2]
 ·rw[A1]
  exact .inr ⟨w.heap.size,(c.toNat,0),A1 _ _ _,by simp⟩
theorem Z8 {a:Act} {o:Oper} {x:Operand} {T e:TypeId} {ti:TInfo} (hti:ti.OK P T) (hel:ti.elem=some e) (ho:o.op=.call { callee:=.builtin .len,args:=#[x],argTypes:=#[T] }) {sa:Option Addr} {n c:Nat} (hx:a.eval x=.slice sa n c) (w:World) :
  (execOp a.eval o).run P w=.ok (.value (.int .i64 n)) w:=by
 have hu:=W8 hti hel
 unfold execOp
 simp[ho,resolve,invoke,builtin,hx,Builtin.len_,run_underlying hu,goInt]
theorem q2s {o:Oper} {x:Operand} {T e:TypeId} {ti:TInfo} (hti:ti.OK P T) (hel:ti.elem=some e) (ho:o.op=.call { callee:=.builtin .len,args:=#[x],argTypes:=#[T] }) {ρs:Env} {hs:Heap} {s:SV} (hx:ev ρs x=.one s) {n:Nat}
  (hn:(s=.nils/\n=0)\/(∃ id,s=.own id/\∃ e t l,(hs id=.arr e t l\/hs id=.ice e t l)/\n=l.length)\/(∃ id off,s=.sub id off n/\∃ e t l,(hs id=.arr e t l\/hs id=.ice e t l))\/∃ t l,s=.sc (.list t) l/\n=l.length) :
  A6 P L w0 o ρs hs hs (D8 .i64 n):=by
 refine C6 (fun c hc=>by rw[ho]at hc;cases hc) fun κ a w hev ok=>⟨.int .i64 n,?_,G7 _ _⟩
 have hxv:=hev x
 rw[hx]at hxv
 rcases hn with⟨rfl,rfl⟩ | ⟨id,rfl,e',t,l,hid,rfl⟩ | ⟨id,off,rfl,e',t,l,hid⟩ | ⟨t,l,rfl,rfl⟩
 ·exact Z8 hti hel ho hxv w
 ·have hv:(κ id=none/\l=[]/\a.eval x=.slice none 0 0)\/∃ b cap,κ id=some (b,cap)/\a.eval x=.slice (some ⟨b,cap.2,none⟩) l.length cap.1:=by
   have hxv':=hxv.1
   rcases hid with hid | hid<;>rw[hid]at hxv'<;>exact hxv'
  rcases hv with⟨_,hl,hv⟩ | ⟨b,cap,_,hv⟩
  ·subst hl;exact Z8 hti hel ho hv w
  ·exact Z8 hti hel ho hv w
 ·have hv:off+n<=l.length/\((κ id=none/\a.eval x=.slice none 0 0)\/∃ b cap o',κ id=some (b,cap)/\a.eval x=.slice (some ⟨b,o',none⟩) n (cap.1-off)/\(n≠0->o'=cap.2+off*t.size)):=by
   have hxv':=hxv.1
   rcases hid with hid | hid<;>rw[hid]at hxv'<;>exact hxv'
  have hrep:RepArr L κ hs w id e' t l:=by
   have:=ok.obj id
   rcases hid with hid | hid<;>rw[hid]at this
   ·exact this
   ·exact this.1
  obtain⟨hle,hv⟩:=hv
  rcases hv with⟨hk,hv⟩ | ⟨b,cap,o',_,hv,_⟩
  ·rcases hrep with⟨_,hl⟩ | ⟨b',cap',cur,hk',_⟩
   ·subst hl
    have:n=0:=by simp at hle;omega
    subst this
    exact Z8 hti hel ho hv w
   ·rw[hk]at hk';cases hk'
  ·exact Z8 hti hel ho hv w
 ·obtain⟨_,_,sa,len,cap,hg0,hlen,_⟩:=hxv
  simp[E3]at hg0
  subst hlen
  exact Z8 hti hel ho hg0 w
theorem y2l {o:Oper} {x y:Operand} {Ts:Array TypeId} (ho:o.op=.call { callee:=.builtin .min,args:=#[x,y],argTypes:=Ts }) {ρs:Env} {k:IntKind} {p q:Int} (hx:ev ρs x=.one (.sc (.int k) p)) (hy:ev ρs y=.one (.sc (.int k) q)) (hs:Heap) :
  A6 P L w0 o ρs hs hs (D8 k (if q<p then q else p)):=by
 refine C6 (fun c hc=>by rw[ho]at hc;cases hc) fun κ a w hev ok=>⟨_,?_,G7 _ _⟩
 have hxv:=hev x
 rw[hx]at hxv
 have hyv:=hev y
 rw[hy]at hyv
 unfold execOp
 simp[ho,resolve,invoke,builtin,G2 hxv,G2 hyv,Builtin.min_,Builtin.min2]
theorem y2k {o:Oper} {x y:Operand} {Ts:Array TypeId} (ho:o.op=.call { callee:=.builtin .max,args:=#[x,y],argTypes:=Ts }) {ρs:Env} {k:IntKind} {p q:Int} (hx:ev ρs x=.one (.sc (.int k) p)) (hy:ev ρs y=.one (.sc (.int k) q)) (hs:Heap) :
  A6 P L w0 o ρs hs hs (D8 k (if q>p then q else p)):=by
 refine C6 (fun c hc=>by rw[ho]at hc;cases hc) fun κ a w hev ok=>⟨_,?_,G7 _ _⟩
 have hxv:=hev x
 rw[hx]at hxv
 have hyv:=hev y
 rw[hy]at hyv
 unfold execOp
 simp[ho,resolve,invoke,builtin,G2 hxv,G2 hyv,Builtin.max_,Builtin.max2]
theorem z73 {α:Type} {l:List α} {k:Int} {y:α} (h:A9 l k=some y):0<=k/\l[k.toNat]? = some y:=by
 unfold A9 at h
 cases hq:decide (0<=k)with
 | true=>rw[hq,cond_true]at h;exact⟨of_decide_eq_true hq,h⟩
 | false=>rw[hq]at h;cases h
theorem y3t {b:ByteArray} {n:Nat} {y:Int} (h:(q8h b)[n]? = some y):∃ u:UInt8,b[n]? = some u/\y=(u.toNat:Int):=by
 unfold q8h at h
 rw[List.getElem?_map,Option.map_eq_some_iff]at h
 obtain⟨u,hu,rfl⟩:=h
 refine⟨u,?_,rfl⟩
 obtain⟨hlt,he⟩:=List.getElem?_eq_some_iff.1 hu
 have hlt':n<b.size:=by simpa using hlt
 show(if h:n<b.size then some b[n]else none)=some u
 rw[dif_pos hlt']
 congr 1
theorem y2z {o:Oper} {T:TypeId} {x i:Operand} {ti:TInfo} {b:ByteArray} (hti:ti.OK P T) (hst:ti.strg=true) (ho:o.op=.index T x i) {ρs:Env} {kk:IntKind} {k y:Int}
  (hx:ev ρs x=.one (.cstr b)) (hi:ev ρs i=.one (.sc (.int kk) k)) (hy:A9 (q8h b) k=some y) (hs:Heap):A6 P L w0 o ρs hs hs (D8 .u8 y):=by
 refine C6 (fun c hc=>by rw[ho]at hc;cases hc) fun κ a w hev ok=>?_
 have hxv:=hev x
 rw[hx]at hxv
 have hxv:a.eval x=.string b:=hxv
 have hiv:=hev i
 rw[hi]at hiv
 obtain⟨h0,hy⟩:=z73 hy
 obtain⟨u,hu,rfl⟩:=y3t hy
 have hd:=hti.strT hst
 refine⟨.int .u8 u.toNat,?_,G7 _ _⟩
 unfold execOp
 simp only[ho,hxv,G2 hiv,Instr.index,asIntOf,Sem.run_bind,Sem.run_pure,Result.andThen_ok,run_underlying hd]
 rw[if_pos h0,hu]
 simp
theorem y1w {o:Oper} {T e:TypeId} {x i:Operand} {n:Nat} {ti te:TInfo} (hti:ti.OK P T) (harr:ti.arr=some (n,e)) (hte:te.OK P e) (hsz:te.size=1) (_h2:2<=n) (ho:o.op=.indexAddr T x i) {ρs:Env} {g:Nat} {l:List Int} {kd kk:IntKind} {k y:Int}
  (hx:ev ρs x=.one (.gl g)) (hi:ev ρs i=.one (.sc (.int kk) k)) (hlen:l.length=n) (hy:A9 l k=some y) (hgl:∀ (i:Nat) (y:Int),l[i]? = some y->w0.cell? ⟨g,i,none⟩=some (.int kd y)) (hs:Heap):A6 P L w0 o ρs hs hs (.one (.gp kd y)):=by
 refine C6 (fun c hc=>by rw[ho]at hc;cases hc) fun κ a w hev ok=>?_
 have hxv:=hev x
 rw[hx]at hxv
 have hxv:a.eval x=.pointer (some ⟨g,0,none⟩):=hxv
 have hiv:=hev i
 rw[hi]at hiv
 obtain⟨h0,hy⟩:=z73 hy
 obtain⟨hd,ie,de,hie,hde,-⟩:=hti.arrT n e harr
 obtain⟨⟨i2,z2,hi2,hisz2,-⟩,d2,hd2,hagg2,-⟩:=hte.base
 rw[hie]at hi2;cases hi2
 have hlt:=(List.getElem?_eq_some_iff.1 hy).1
 have hkn:k<(n:Int):=by rw[<-hlen];omega
 have hc0:=hgl _ y hy
 have hglt:g<w0.heap.size:=by
  unfold World.cell? at hc0
  split at hc0
  ·rename_i hc;exact(Array.getElem?_eq_some_iff.1 hc).1
  ·cases hc0
 have hc:w.cell? ⟨g,k.toNat,none⟩=some (.int kd y):=by
  rw[q1o (w:=w0) (w':=w) (a:=⟨g,k.toNat,none⟩) (ok.below.block g hglt)];exact hc0
 refine⟨.pointer (some ⟨g,k.toNat,none⟩),?_,g,k.toNat,rfl,⟨Nat.lt_of_lt_of_le hglt ok.below.size,fun id c hl hk=>by have:=(ok.own id g c hl hk).1;omega⟩,hc⟩
 have hbnd:0<=k/\k<(n:Int):=⟨h0,hkn⟩
 unfold execOp
 simp[ho,hxv,G2 hiv,Instr.indexAt,Instr.sureAddr,asIntOf,run_underlying hd,hbnd,O6 hie,hisz2,hsz,P0]
theorem y1f {o:Oper} {T e:TypeId} {x i:Operand} {n:Nat} {ti te:TInfo} (hti:ti.OK P T) (harr:ti.arr=some (n,e)) (hte:te.OK P e) (hsz:te.size=1) (ho:o.op=.indexAddr T x i) {ρs:Env} {id off:Nat} {kk:IntKind} {k:Int}
  (hx:ev ρs x=.one (.ptr id off)) (hi:ev ρs i=.one (.sc (.int kk) k)) (hb:inB k n=true) (hs:Heap):A6 P L w0 o ρs hs hs (.one (.ptr id (off+k.toNat))):=by
 refine C6 (fun c hc=>by rw[ho]at hc;cases hc) fun κ a w hev ok=>?_
 have hxv:=hev x
 rw[hx]at hxv
 obtain⟨hn,b,c,hk,hv⟩:=hxv
 have hiv:=hev i
 rw[hi]at hiv
 obtain⟨hd,ie,de,hie,hde,-⟩:=hti.arrT n e harr
 obtain⟨⟨i2,z2,hi2,hisz2,-⟩,d2,hd2,hagg2,-⟩:=hte.base
 rw[hie]at hi2;cases hi2
 unfold inB at hb
 rw[Bool.and_eq_true,decide_eq_true_eq,decide_eq_true_eq]at hb
 refine⟨.pointer (some ⟨b,off+k.toNat,none⟩),?_,hn,b,c,hk,rfl⟩
 unfold execOp
 simp[ho,hv,G2 hiv,Instr.indexAt,Instr.sureAddr,asIntOf,run_underlying hd,hb,O6 hie,hisz2,hsz,P0]
end Go.Abs
