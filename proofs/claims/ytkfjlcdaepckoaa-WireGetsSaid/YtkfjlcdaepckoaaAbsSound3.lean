/- The engine, part 6: stores and new objects. -/
import Derived.Test.YtkfjlcdaepckoaaAbsSound2
namespace Go.Abs
open Go Go.RowKit
variable {P:Program} {L:Nat->Prop} {w0:World}
theorem q18 {α:Type} (cs:List α) (off:Nat) (vs:List α) (h:off+vs.length<=cs.length) (i:Nat) :
  (D2 cs off vs)[i]? = if i<off then cs[i]? else if i<off+vs.length then vs[i-off]? else cs[i]?:=by
 unfold D2
 have ht:(cs.take off).length=off:=by simp;omega
 by_cases h1:i<off
 ·rw[if_pos h1,List.append_assoc,List.getElem?_append_left (by omega),List.getElem?_take_of_lt h1]
 ·rw[if_neg h1]
  by_cases h2:i<off+vs.length
  ·rw[if_pos h2,List.getElem?_append_left (by simp;omega),List.getElem?_append_right (by omega),ht]
  ·rw[if_neg h2,List.getElem?_append_right (by simp;omega),List.getElem?_drop]
   congr 1;simp;omega
theorem q2u {α:Type} (cs:List α) (off:Nat) (vs:List α) (h:off+vs.length<=cs.length):(D2 cs off vs).length=cs.length:=by
 unfold D2;simp;omega
theorem z7u {κ:A2} {h:Heap} {w:World} {s:SV} {v:Value} (hk:s.known=true) (hr:RepSV L κ h w s v):v.oneCell'=true:=by
 cases s with
 | unk=>cases hk
 | udf=>cases hk
 | ne e l=>exact hr.1
 | nx=>obtain⟨c,hc⟩:=hr;rw[hc];rfl
 | sc t x=>exact hr.2.1
 | nils=>rw[show v=_ from hr];rfl
 | nilp=>rw[show v=_ from hr];rfl
 | gl g=>rw[show v=_ from hr];rfl
 | cstr b=>rw[show v=_ from hr];rfl
 | bfn f agg cs=>obtain⟨us,hv,_⟩:=hr;rw[hv];rfl
 | bfp f id off=>obtain⟨us,hv,_⟩:=hr;rw[hv];rfl
 | ifc T agg cs=>obtain⟨us,hv,_⟩:=hr;rw[hv];rfl
 | nif=>rw[show v=_ from hr];rfl
 | nilf=>rw[show v=_ from hr];rfl
 | pan _=>exact hr.elim
 | gp k x=>obtain⟨b,o,hv,_⟩:=hr;rw[hv];rfl
 | own id=>exact hr.2
 | sub id a b=>exact hr.2
 | ptr id off=>obtain⟨_,b,c,_,hv⟩:=hr;rw[hv];rfl
 | eptr id t i c=>obtain⟨_,b,cap,_,hv⟩:=hr;rw[hv];rfl
 | ro t x c=>obtain⟨b,o,hv,_⟩:=hr;rw[hv];rfl
 | fn f caps=>obtain⟨cs,hv,_⟩:=hr;rw[hv];rfl
 | yld id=>obtain⟨_,b,c,_,hv⟩:=hr;rw[hv];rfl
 | mp id=>obtain⟨_,b,c,_,hv⟩:=hr;rw[hv];rfl
 | mpn=>rw[show v=_ from hr];rfl
 | stmp id=>obtain⟨_,b,c,_,hv⟩:=hr;rw[hv];rfl
 | csl id _ _ _=>obtain⟨_,b,c,_,hv⟩:=hr;rw[hv];rfl
theorem z5c {v:Value} (h:v.oneCell'=true):v.cells=#[v]:=by
 cases v<;>first | rfl | (simp[Value.oneCell']at h)
theorem q3c {κ:A2} {h:Heap} {w:World} {av:AV} {v:Value} (hr:RepAV L κ h w av v) {vs:List SV} (hc:cellsOf av=some vs) (hk:vs.all SV.known=true) :
  ∃ cs:List Value,v.cells=cs.toArray/\RepCells L κ h w vs cs:=by
 cases av with
 | one s =>
  simp[cellsOf]at hc;subst hc
  simp at hk
  have h1:=z7u hk hr
  refine⟨[v],z5c h1,rfl,fun i s' c hi hj=>?_⟩
  cases i with
  | zero=>simp at hi hj;subst hi;subst hj;exact⟨hr,h1⟩
  | succ i=>simp at hi
 | agg l =>
  simp[cellsOf]at hc;subst hc
  obtain⟨cs,hv,hcs⟩:=hr
  exact⟨cs,by rw[hv];rfl,hcs⟩
 | tup l=>cases hc
theorem V0 {κ:A2} {h:Heap} {w:World} {vs:List SV} {cs:List Value} (hc:RepCells L κ h w vs cs) {i:Nat} {s:SV} (hi:vs[i]? = some s) :
  ∃ c,cs[i]? = some c/\RepSV L κ h w s c/\c.oneCell'=true:=by
 have hlt:i<cs.length:=by rw[hc.1];exact(List.getElem?_eq_some_iff.1 hi).1
 exact⟨cs[i],List.getElem?_eq_getElem hlt,hc.2 i s _ hi (List.getElem?_eq_getElem hlt)⟩
theorem q2m {κ:A2} {h:Heap} {w:World} {vs:List SV} {cs:List Value} (hc:RepCells L κ h w vs cs):∀ c∈cs,c.oneCell'=true:=by
 intro c hm
 obtain⟨i,hi⟩:=List.getElem?_of_mem hm
 have hlt:i<vs.length:=by rw[<-hc.1];exact(List.getElem?_eq_some_iff.1 hi).1
 exact(hc.2 i _ c (List.getElem?_eq_getElem hlt) hi).2
theorem z3m {κ:A2} {h:Heap} {w:World} {l vs:List SV} {cs us:List Value} {off:Nat} (hl:RepCells L κ h w l cs) (hv:RepCells L κ h w vs us)
  (hle:off+vs.length<=l.length):RepCells L κ h w (D2 l off vs) (D2 cs off us):=by
 have hle':off+us.length<=cs.length:=by rw[hv.1,hl.1];exact hle
 refine⟨by rw[q2u _ _ _ hle,q2u _ _ _ hle',hl.1],fun i s c hi hc=>?_⟩
 rw[q18 _ _ _ hle]at hi
 rw[q18 _ _ _ hle',hv.1]at hc
 by_cases h1:i<off
 ·rw[if_pos h1]at hi hc;exact hl.2 i s c hi hc
 ·rw[if_neg h1]at hi hc
  by_cases h2:i<off+vs.length
  ·rw[if_pos h2]at hi hc;exact hv.2 _ s c hi hc
  ·rw[if_neg h2]at hi hc;exact hl.2 i s c hi hc
theorem q6g {a:Act} {o:Oper} {T:TypeId} {x y:Operand} {ad:Addr} (ho:o.op=.store T x y) (hx:a.eval x=.pointer (some ad)) (w w':World)
  (h:(storeVar T ad (a.eval y)).run P w=.ok () w'):(execOp a.eval o).run P w=.ok .skip w':=by
 unfold execOp
 rw[ho]
 simp[Instr.storeAt,Instr.sureAddr,hx,h]
theorem z3b {T:TypeId} {i:TypeInfo} (hi:P.info? T=some i) {v:Value} {us:List Value} (hv:v.cells=us.toArray) (hsz:us.length=i.size) {w:World} {b o:Nat} {cur:Array Value} {ty:TypeId}
  (hh:w.heap[b]? = some (.cells cur ty (0,0))) (hle:o+us.length<=cur.size) (h1:∀ c∈us,c.oneCell'=true) :
  (storeVar T ⟨b,o,none⟩ v).run P w=.ok () (w.setRow b (D2 cur.toList o us).toArray):=by
 unfold storeVar
 have:=run_storeCells_at (P:=P) b o ty us 0 cur w hh (by simpa using hle) h1
 simp only[Sem.run_bind,O6 hi,Result.andThen_ok,hv]
 simp only[List.size_toArray,hsz,ne_eq,not_true_eq_false,if_false]
 simpa[D2]using this
theorem Y9 {w:World} {B b:Nat} (cs:Array Value) (h:Below B w0 w) (hb:B<=b):Below B w0 (w.setRow b cs) :=
 h.trans ⟨rfl,rfl,rfl,by simp,fun k hk=>setRow_other w b k cs (by omega),Nat.le_refl _⟩
theorem j0x {o:Oper} {T:TypeId} {x y:Operand} {ti:TInfo} (hti:ti.OK P T) (ho:o.op=.store T x y) {ρs:Env} {hs:Heap} {id off:Nat} {l vs:List SV}
  (hx:ev ρs x=.one (.ptr id off)) (hid:hs id=.cells l) (hy:cellsOf (ev ρs y)=some vs) (hk:vs.all SV.known=true) (hsz:vs.length=ti.size) (hle:off+vs.length<=l.length) :
  A6 P L w0 o ρs hs (upd hs id (.cells (D2 l off vs))) (.one .unk):=by
 refine q08 (fun c hc=>by rw[ho]at hc;cases hc) fun κ a w hev ok=>?_
 obtain⟨⟨i,z,hi,hisz,-⟩,-⟩:=hti.base
 have hxr:=hev x
 rw[hx]at hxr
 obtain⟨_,b,c,hkp,hv⟩:=hxr
 obtain⟨us,hus,hrep⟩:=q3c (hev y) hy hk
 have hob:=ok.obj id
 rw[hid]at hob
 obtain⟨b',c',cs,ty,hk',hheap,hcs⟩:=hob
 rw[hkp]at hk';simp at hk';obtain⟨rfl,rfl⟩:=hk'
 have hst:=z3b (P:=P) hi (v:=a.eval y) hus (by rw[hrep.1,hsz,hisz]) hheap (by simp[hrep.1,hcs.1];exact hle) (q2m hrep)
 have hlive:(hs id).live=true:=by rw[hid];rfl
 have hown:=ok.own id b c hlive hkp
 have hlike:(hs id).like (.cells (D2 l off vs)):=by rw[hid];trivial
 have hsize:(w.setRow b (D2 cs.toArray.toList off us).toArray).heap.size=w.heap.size:=by simp
 have hoth:∀ b',b'≠b->(w.setRow b (D2 cs.toArray.toList off us).toArray).heap[b']? = w.heap[b']?:=fun b' hne=>setRow_other w b b' _ hne
 have hx':=N5 (L:=L) (κ:=κ) (h:=hs) hkp hlike (.inl (.inl ⟨_,_,_,hheap⟩)) hsize hoth
 refine⟨κ,_,q6g ho hv w _ hst,P3 ok hkp hlike hsize hoth (Y9 _ ok.below hown.1) ⟨b,c,_,ty,hkp,setRow_heap w b _ _ ty (0,0) hheap,?_⟩,hx'⟩
 exact(z3m hcs hrep hle).ext hx'
theorem q7b:∀ (t:Ty) (y:t.den),E5 (F6 t y)=[]
 | .map _ _ _ _,_=>rfl
 | .int _,_=>rfl
 | .bool,_=>rfl
 | .list _,_=>rfl
 | .nil,_=>rfl
 | .cons a b,y=>by
  have ha:=q7b a y.1
  have hb:=q7b b y.2
  unfold E5 at ha hb ⊢
  simp only[F6,List.flatMap_append,ha,hb,List.append_nil]
theorem z93 {cs vs:List SV} {off:Nat} {j:Nat} (hc:E5 cs=[]) (hm:j∈E5 (D2 cs off vs)):j∈E5 vs:=by
 unfold E5 D2 at *
 simp only[List.flatMap_append,List.mem_append]at hm
 rcases hm with(hm | hm) | hm
 ·obtain⟨s,hs,hj⟩:=List.mem_flatMap.1 hm
  have:j∈cs.flatMap F7:=List.mem_flatMap.2 ⟨s,List.mem_of_mem_take hs,hj⟩
  rw[hc]at this;cases this
 ·exact hm
 ·obtain⟨s,hs,hj⟩:=List.mem_flatMap.1 hm
  have:j∈cs.flatMap F7:=List.mem_flatMap.2 ⟨s,List.mem_of_mem_drop hs,hj⟩
  rw[hc]at this;cases this
theorem J8 (a b:List (Nat×AObj)) (h:Heap):A5 (a++b) h=A5 b (A5 a h):=by
 simp[A5]
theorem S5 {h:Heap} {id:Nat}:∀ {ids:List Nat} {h1:Heap},id∉ids->A5 (B0 h ids) h1 id=h1 id
 | [],_,_=>rfl
 | j::ids,h1,hm=>by
  have hne:id≠j:=fun e=>hm (by simp[e])
  have hm':id∉ids:=fun e=>hm (by simp[e])
  cases ho:h j with
  | arr e t l =>
   have he:A5 (B0 h (j::ids)) h1=A5 (B0 h ids) (upd h1 j (.ice e t l)):=by simp[B0,ho,A5]
   rw[he,S5 hm',A0 _ _ hne]
  | mapo ak av tk tv l =>
   have he:A5 (B0 h (j::ids)) h1=A5 (B0 h ids) (upd h1 j (.mice ak av tk tv l)):=by simp[B0,ho,A5]
   rw[he,S5 hm',A0 _ _ hne]
  | _ =>
   have he:A5 (B0 h (j::ids)) h1=A5 (B0 h ids) h1:=by simp[B0,ho]
   rw[he,S5 hm']
theorem y2y {o:Oper} {T:TypeId} {x y:Operand} {ti:TInfo} (hti:ti.OK P T) (ho:o.op=.store T x y) {ρs:Env} {hs:Heap} {id i c:Nat} {e:TypeId} {t:Ty} {l:List t.den} {vs:List SV} {z z':t.den}
  (hx:ev ρs x=.one (.eptr id t i c)) (hid:hs id=.arr e t l) (hy:cellsOf (ev ρs y)=some vs) (hk:vs.all SV.known=true) (hsz:vs.length=ti.size)
  (hz:l[i]? = some z) (hd:C4 hs t (D2 (F6 t z) c vs)=some (z',[])) (hne:(E5 vs).all (fun j=>!Nat.beq j id)=true) (hfit:c+vs.length<=t.size) :
  A6 P L w0 o ρs hs (A5 (B0 hs (E5 vs)++[(id,.arr e t (l.set i z'))]) hs) (.one .unk):=by
 refine q08 (fun c hc=>by rw[ho]at hc;cases hc) fun κ a w hev ok=>?_
 obtain⟨⟨ii,_,hi,hisz,-⟩,-⟩:=hti.base
 have hxr:=hev x
 rw[hx]at hxr
 obtain⟨_,b,cap,hkp,hv⟩:=hxr
 obtain⟨us,hus,hrep⟩:=q3c (hev y) hy hk
 have hob:=ok.obj id
 rw[hid]at hob
 rcases hob with⟨hk',_⟩ | ⟨b',cap',cur,hk',hheap,hcsz,hcm,hll,h1,hel⟩
 ·rw[hkp]at hk';cases hk'
 rw[hkp]at hk';simp at hk';obtain⟨rfl,rfl⟩:=hk'
 obtain⟨okI,extI,freeI⟩:=S6 (E5 vs) ok
 have hnid:id∉E5 vs:=fun hm=>by
  have:=List.all_eq_true.1 hne id hm
  simp at this
 have hid':A5 (B0 hs (E5 vs)) hs id=.arr e t l:=(S5 hnid).trans hid
 have hilt:i<l.length:=(List.getElem?_eq_some_iff.1 hz).1
 have hcap:(i+1)*t.size<=cap.1*t.size:=Nat.mul_le_mul_right _ (by omega)
 have hsucc:(i+1)*t.size=i*t.size+t.size:=Nat.succ_mul _ _
 have hule:cap.2+i*t.size+c+us.length<=cur.size:=by rw[hrep.1];omega
 have hst:=z3b (P:=P) hi (v:=a.eval y) hus (by rw[hrep.1,hsz,hisz]) hheap hule (q2m hrep)
 have hlive:(hs id).live=true:=by rw[hid];rfl
 have hown:=ok.own id b cap hlive hkp
 let w':=w.setRow b (D2 cur.toList (cap.2+i*t.size+c) us).toArray
 have hlike:(A5 (B0 hs (E5 vs)) hs id).like (.arr e t (l.set i z')):=by rw[hid'];exact⟨rfl,rfl,by simp⟩
 have hsize:w'.heap.size=w.heap.size:=by simp[w']
 have hoth:∀ b',b'≠b->w'.heap[b']? = w.heap[b']?:=fun b' hne=>setRow_other w b b' _ hne
 have extW:=N5 (L:=L) (κ:=κ) (h:=A5 (B0 hs (E5 vs)) hs) hkp hlike (.inl (.inl ⟨_,_,_,hheap⟩)) hsize hoth
 have hX:=extI.trans extW
 have hheap':w'.heap[b]? = some (.cells (D2 cur.toList (cap.2+i*t.size+c) us).toArray e (0,0)):=setRow_heap w b _ _ e (0,0) hheap
 have hcur:∀ q:Nat,(D2 cur.toList (cap.2+i*t.size+c) us).toArray[q]? = if q<cap.2+i*t.size+c then cur[q]? else if q<cap.2+i*t.size+c+us.length then us[q-(cap.2+i*t.size+c)]? else cur[q]?:=by
  intro q
  rw[List.getElem?_toArray,q18 _ _ _ (by simpa using hule)]
  simp
 rw[J8]
 refine⟨κ,w',q6g ho hv w _ hst,P3 okI hkp hlike hsize hoth (Y9 _ ok.below hown.1) (.inr ⟨b,cap,_,hkp,hheap',?_,hcm,by simpa using hll,?_,?_⟩),hX⟩
 ·simp only[List.size_toArray];rw[q2u _ _ _ (by simpa using hule)];simpa using hcsz
 ·intro q hq
  obtain⟨j,hj⟩:=List.getElem?_of_mem hq
  have hj':=hcur j
  rw[List.getElem?_toArray]at hj'
  rw[hj']at hj
  split at hj
  ·exact h1 q (List.mem_of_getElem? (by simpa using hj))
  ·split at hj
   ·exact q2m hrep q (List.mem_of_getElem? hj)
   ·exact h1 q (List.mem_of_getElem? (by simpa using hj))
 ·intro j u hu
  by_cases hji:j=i
  ·subst hji
   rw[List.getElem?_set_self hilt]at hu
   cases hu
   refine(R3 ok hX t (D2 (F6 t z) c vs) _ z' [] (fun q s hq=>?_) (fun j' hm ho' b2 c2 hk2=>?_) hd).2.2
   ·have hel':=S0 t _ z (hel j z hz)
    have hfit':c+vs.length<=(F6 t z).length:=by rw[P1];exact hfit
    have hqlt:q<t.size:=by
     have:=(List.getElem?_eq_some_iff.1 hq).1
     rw[q2u _ _ _ hfit',P1]at this;exact this
    simp only[hqlt,if_true]
    rw[q18 _ _ _ hfit']at hq
    rw[hcur (cap.2+j*t.size+q)]
    by_cases q1:q<c
    ·rw[if_pos q1]at hq
     rw[if_pos (by omega)]
     obtain⟨v,v1,v2⟩:=hel' q s hq
     simp only[hqlt,if_true]at v1
     exact⟨v,v1,v2⟩
    ·rw[if_neg q1]at hq
     rw[if_neg (by omega)]
     by_cases q2:q<c+vs.length
     ·rw[if_pos q2]at hq
      rw[if_pos (by rw[hrep.1];omega)]
      obtain⟨v,v1,v2⟩:=V0 hrep hq
      rw[show cap.2+j*t.size+q-(cap.2+j*t.size+c)=q-c from by omega]
      exact⟨v,v1,v2⟩
     ·rw[if_neg q2]at hq
      rw[if_neg (by rw[hrep.1];omega)]
      obtain⟨v,v1,v2⟩:=hel' q s hq
      simp only[hqlt,if_true]at v1
      exact⟨v,v1,v2⟩
   ·have hm':=z93 (q7b t z) hm
    have hf:=freeI j' hm' ho' b2 c2 hk2
    exact extW.free b2 hf
  ·rw[List.getElem?_set_ne (Ne.symm hji)]at hu
   refine RepAt.congr t _ _ u (fun q hq=>?_) (RepAt.ext hX (hel j u hu))
   simp only[hq,if_true]
   rw[hcur (cap.2+j*t.size+q)]
   rcases Nat.lt_or_ge j i with hlt | hge
   ·have h2:(j+1)*t.size<=i*t.size:=Nat.mul_le_mul_right _ hlt
    have h3:(j+1)*t.size=j*t.size+t.size:=Nat.succ_mul _ _
    rw[if_pos (by omega)]
   ·have h2:(i+1)*t.size<=j*t.size:=Nat.mul_le_mul_right _ (by omega)
    rw[if_neg (by omega),if_neg (by rw[hrep.1];omega)]
end Go.Abs
