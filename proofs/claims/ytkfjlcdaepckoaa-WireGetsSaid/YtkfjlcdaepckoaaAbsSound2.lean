/- The engine, part 5: loads, stores, new objects. -/
import Derived.Test.YtkfjlcdaepckoaaAbsSound1
namespace Go.Abs
open Go Go.RowKit
variable {P:Program} {L:Nat->Prop} {w0:World}
theorem q44 {h hs:Heap} (e:Ty) (s:SV) (hh:∀ id∈F7 s,hs id=h id):B5 hs e s=B5 h e s:=by
 cases s<;>simp[B5,F7]at hh ⊢<;>rw[hh]
theorem j7m {h:Heap} {e:Ty} {s:SV} {l:List e.den} (hl:B5 h e s=some l):∀ id∈F7 s,∃ e' t l',h id=.arr e' t l'\/h id=.ice e' t l':=by
 intro id hm
 cases s with
 | own j =>
  simp[F7]at hm;subst hm
  simp only[B5]at hl
  cases ho:h id with
  | arr e' t l'=>exact⟨e',t,l',.inl rfl⟩
  | ice e' t l'=>exact⟨e',t,l',.inr rfl⟩
  | _=>rw[ho]at hl;simp at hl
 | sub j off len =>
  simp[F7]at hm;subst hm
  simp only[B5]at hl
  cases ho:h id with
  | arr e' t l'=>exact⟨e',t,l',.inl rfl⟩
  | ice e' t l'=>exact⟨e',t,l',.inr rfl⟩
  | _=>rw[ho]at hl;simp at hl
 | mp j=>simp[B5]at hl
 | _=>simp[F7]at hm
theorem j7v {h hs:Heap} (ak av:Bool) (k v:Ty) (s:SV) (hh:∀ id∈F7 s,hs id=h id):L5 hs ak av k v s=L5 h ak av k v s:=by
 cases s<;>simp[L5,F7]at hh ⊢<;>rw[hh]
theorem j7x {h:Heap} {ak av:Bool} {k v:Ty} {s:SV} {l:List (k.den×v.den)} (hl:L5 h ak av k v s=some l):∀ id∈F7 s,∃ ak av tk tv l',h id=.mapo ak av tk tv l'\/h id=.mice ak av tk tv l':=by
 intro id hm
 cases s with
 | mp j =>
  simp[F7]at hm;subst hm
  simp only[L5]at hl
  cases ho:h id with
  | mapo ak av tk tv l'=>exact⟨_,_,_,_,_,.inl rfl⟩
  | mice ak av tk tv l'=>exact⟨_,_,_,_,_,.inr rfl⟩
  | _=>rw[ho]at hl;simp at hl
 | own j=>simp[L5]at hl
 | sub j a b=>simp[L5]at hl
 | _=>simp[F7]at hm
theorem z8a {κ:A2} {h h':Heap} {w w':World} (ok:HeapOK L w0 κ h w) (x:Ext L κ h w κ h' w') (ak av:Bool) (tk tv:Ty) (s:SV) (v:Value) (hr:RepSV L κ h w s v)
  {l:List (tk.den×tv.den)} (hl:L5 h ak av tk tv s=some l)
  (hid:∀ id∈F7 s,∀ b c,κ id=some (b,c)->A4 L κ h' w' b/\w'.heap[b]? = w.heap[b]?):RepAt w' (A4 L κ h' w') (.map ak av tk tv) (E3 v) l:=by
 cases s with
 | mpn =>
  simp[L5]at hl
 | sc t y =>
  simp only[L5]at hl
  obtain⟨he,hy⟩:=G4 hl
  subst he;subst hy
  exact RepAt.ext x hr.2.2
 | mp id =>
  obtain⟨hnf,b,c,hk,hv⟩:=hr
  subst hv
  obtain⟨hfree,hheap⟩:=hid id (by simp[F7]) b c hk
  have key:∀ es cl (l':List (tk.den×tv.den)),w.heap[b]? = some (.map es cl)->MapRep w (A4 L κ h w) ak av tk tv l' es cl->RepAt w' (A4 L κ h' w') (.map ak av tk tv) (E3 (.map (some b))) l' :=
   fun es cl l' h1 h2=>⟨b,es,cl,rfl,hfree,hheap.trans h1,h2.mono x.free⟩
  simp only[L5]at hl
  have ho:=ok.obj id
  cases hq:h id with
  | mapo ak' av' tk' tv' l' =>
   rw[hq]at hl ho
   obtain⟨he,hy⟩:=G4 hl
   cases he
   change l'=l at hy
   subst hy
   obtain⟨b2,c2,es,cl,g1,g2,g3⟩:=ho
   rw[hk]at g1;cases g1
   exact key es cl _ g2 g3
  | mice ak' av' tk' tv' l' =>
   rw[hq]at hl ho
   obtain⟨he,hy⟩:=G4 hl
   cases he
   change l'=l at hy
   subst hy
   obtain⟨b2,c2,es,cl,g1,_,g2,g3⟩:=ho
   rw[hk]at g1;cases g1
   exact key es cl _ g2 g3
  | _=>rw[hq]at hl;simp at hl
 | _=>simp[L5]at hl
theorem Q6 {α β:Type} {o:Option α} {r0:β} {y:α} {r:β} (h:o.map (·,r0)=some (y,r)):o=some y/\r=r0:=by
 cases o with
 | none=>cases h
 | some a=>simp only[Option.map_some,Option.some.injEq,Prod.mk.injEq]at h;exact⟨by rw[h.1],h.2.symm⟩
theorem R2 {h hs:Heap}:∀ (t:Ty) (cs:List SV),(∀ id∈E5 cs,hs id=h id)->C4 hs t cs=C4 h t cs
 | .int k,cs,_=>by cases cs with | nil=>rfl | cons s r=>cases s<;>rfl
 | .bool,cs,_=>by cases cs with | nil=>rfl | cons s r=>cases s<;>rfl
 | .nil,cs,_=>by cases cs<;>rfl
 | .list e,cs,hh=>by
  cases cs with
  | nil=>rfl
  | cons s r=>simp only[C4];rw[q44 e s (fun id hm=>hh id (by simp[E5,hm]))]
 | .map ak av k v,cs,hh=>by
  cases cs with
  | nil=>rfl
  | cons s r=>simp only[C4];rw[j7v ak av k v s (fun id hm=>hh id (by simp[E5,hm]))]
 | .cons a b,cs,hh=>by
  have ha:=R2 a cs hh
  have suffix:∀ (t:Ty) (cs:List SV) y r,C4 h t cs=some (y,r)->∃ p,cs=p++r:=by
   intro t
   induction t with
   | int k=>intro cs y r he;cases cs with
    | nil=>simp[C4]at he
    | cons s q=>cases s with
     | sc t z=>exact⟨[_],by rw[(Q6 he).2];rfl⟩
     | _=>simp[C4]at he
   | bool=>intro cs y r he;cases cs with
    | nil=>simp[C4]at he
    | cons s q=>cases s with
     | sc t z=>exact⟨[_],by rw[(Q6 he).2];rfl⟩
     | _=>simp[C4]at he
   | nil=>intro cs y r he;refine⟨[],?_⟩;cases cs<;>simp[C4]at he<;>simp[he]
   | list e=>intro cs y r he;cases cs with
    | nil=>simp[C4]at he
    | cons s q=>exact⟨[s],by rw[(Q6 he).2];rfl⟩
   | map ak av k v _ _=>intro cs y r he;cases cs with
    | nil=>simp[C4]at he
    | cons s q=>exact⟨[s],by rw[(Q6 he).2];rfl⟩
   | cons a b iha ihb =>
    intro cs y r he
    simp only[C4]at he
    split at he
    ·rename_i x r1 h1
     split at he
     ·rename_i y1 r2 h2
      obtain⟨p,hp⟩:=iha cs x r1 h1
      obtain⟨q,hq⟩:=ihb r1 y1 r2 h2
      simp at he
      exact⟨p++q,by rw[hp,hq,<-he.2];simp⟩
     ·cases he
    ·cases he
  simp only[C4,ha]
  split
  ·rename_i x r h1
   obtain⟨p,hp⟩:=suffix a cs x r h1
   rw[R2 b r (fun id hm=>hh id (by rw[hp];simp only[E5,List.flatMap_append,List.mem_append];exact .inr hm))]
  ·rfl
theorem R3 {κ:A2} {h h':Heap} {w w':World} (ok:HeapOK L w0 κ h w) (x:Ext L κ h w κ h' w'):∀ (t:Ty) (cs:List SV) (get:Nat->Option Value) (y:t.den) (r:List SV),
  (∀ (i:Nat) (s:SV),cs[i]? = some s->∃ c,get i=some c/\RepSV L κ h w s c/\c.oneCell'=true) ->
  (∀ id∈E5 cs,q1i (h id)->∀ b c,κ id=some (b,c)->A4 L κ h' w' b/\w'.heap[b]? = w.heap[b]?)->C4 h t cs=some (y,r) ->
  t.size<=cs.length/\r=cs.drop t.size/\RepAt w' (A4 L κ h' w') t get y
 | .int k,cs,get,y,r,hc,_,hd=>by
  cases cs with
  | nil=>simp[C4]at hd
  | cons s q =>
   cases s with
   | sc t z=>?_
   | _=>simp[C4]at hd
   obtain⟨h1,rfl⟩:=Q6 hd
   obtain⟨he,hz⟩:=G4 h1
   cases he
   change z=y at hz
   subst hz
   obtain⟨c,g0,hr,_⟩:=hc 0 _ rfl
   refine⟨by simp[Ty.size],by simp[Ty.size],?_⟩
   have:=G2 hr
   subst this
   exact g0
 | .bool,cs,get,y,r,hc,_,hd=>by
  cases cs with
  | nil=>simp[C4]at hd
  | cons s q =>
   cases s with
   | sc t z=>?_
   | _=>simp[C4]at hd
   obtain⟨h1,rfl⟩:=Q6 hd
   obtain⟨he,hz⟩:=G4 h1
   cases he
   change z=y at hz
   subst hz
   obtain⟨c,g0,hr,_⟩:=hc 0 _ rfl
   refine⟨by simp[Ty.size],by simp[Ty.size],?_⟩
   have:=V1 hr
   subst this
   exact g0
 | .nil,cs,get,y,r,hc,_,hd=>by
  have:r=cs:=by cases cs<;>simp[C4]at hd<;>simp[hd]
  exact⟨by simp[Ty.size],by simp[Ty.size,this],trivial⟩
 | .list e,cs,get,y,r,hc,hid,hd=>by
  cases cs with
  | nil=>simp[C4]at hd
  | cons s q =>
   obtain⟨h1,rfl⟩:=Q6 hd
   obtain⟨c,g0,hr,_⟩:=hc 0 s rfl
   refine⟨by simp[Ty.size],by simp[Ty.size],?_⟩
   have:=z7y ok x e s c hr h1 (fun id hm=>hid id (by simp[E5,hm]) (.inl (j7m h1 id hm)))
   exact RepAt.congr (.list e) _ _ y (fun j hj=>by simp[Ty.size]at hj;subst hj;simp[E3,g0]) this
 | .map ak av k v,cs,get,y,r,hc,hid,hd=>by
  cases cs with
  | nil=>simp[C4]at hd
  | cons s q =>
   obtain⟨h1,rfl⟩:=Q6 hd
   obtain⟨c,g0,hr,_⟩:=hc 0 s rfl
   refine⟨by simp[Ty.size],by simp[Ty.size],?_⟩
   have:=z8a ok x ak av k v s c hr h1 (fun id hm=>hid id (by simp[E5,hm]) (.inr (j7x h1 id hm)))
   exact RepAt.congr (.map ak av k v) _ _ y (fun j hj=>by simp[Ty.size]at hj;subst hj;simp[E3,g0]) this
 | .cons a b,cs,get,y,r,hc,hid,hd=>by
  simp only[C4]at hd
  split at hd
  ·rename_i x1 r1 h1
   split at hd
   ·rename_i y1 r2 h2
    simp only[Option.some.injEq,Prod.mk.injEq]at hd
    obtain⟨hy,hr⟩:=hd
    subst hr;subst hy
    obtain⟨a1,a2,a3⟩:=R3 ok x a cs get x1 r1 hc hid h1
    subst a2
    obtain⟨b1,b2,b3⟩:=R3 ok x b (cs.drop a.size) (fun c=>get (a.size+c)) y1 r2 (fun i s hi=>hc (a.size+i) s (by rw[List.getElem?_drop]at hi;exact hi))
     (fun id hm=>hid id (by
      simp only[E5,List.mem_flatMap]at hm ⊢
      obtain⟨s,hs,hm⟩:=hm
      exact⟨s,List.mem_of_mem_drop hs,hm⟩)) h2
    refine⟨by simp[Ty.size]at b1 ⊢;omega,by rw[b2];simp[Ty.size],a3,b3⟩
   ·cases hd
  ·cases hd
theorem Y0 {t:TypeId} {d:TypeDesc} (h:P.underlying t=some d) (w:World):(isAgg t).run P w=.ok (P7 d) w:=by
 unfold isAgg
 rw[Sem.run_bind,run_underlying h]
 cases d<;>rfl
theorem q50 {t:TypeId} {i:TypeInfo} (h:P.info? t=some i) (w:World):(typeInfo t).run P w=.ok i w:=by
 unfold typeInfo
 simp[h]
theorem O6 {t:TypeId} {i:TypeInfo} (h:P.info? t=some i) (w:World):(sizeOf t).run P w=.ok i.size w:=by
 unfold sizeOf
 simp[q50 h]
theorem P0 (b o j:Nat):(⟨b,o,none⟩:Addr).add j=⟨b,o+j,none⟩:=by
 unfold Addr.add;split<;>simp_all
theorem q4e {R:Type} {ti:TInfo} {T:TypeId} (hti:ti.OK P T) {cs:List SV} {off:Nat} {K:AV->Option R} {x:R} (hp:U6 ti cs off K=some x) :
  ∃ av,K av=some x/\∀ (κ:A2) (h:Heap) (w:World) (b o:Nat),
   (∀ (i:Nat) (s:SV),cs[i]? = some s->∃ v,w.cell? ⟨b,o+i,none⟩=some v/\RepSV L κ h w s v/\v.oneCell'=true) ->
   ∃ v,(loadVar T ⟨b,o+off,none⟩).run P w=.ok v w/\RepAV L κ h w av v:=by
 obtain⟨⟨i,z,hi,hisz,-⟩,d,hd,hagg,-⟩:=hti.base
 unfold U6 at hp
 split at hp
 ·rename_i hag
  cases hle:Nat.ble (off+ti.size) cs.length with
  | false=>rw[hle]at hp;cases hp
  | true =>
   rw[hle]at hp
   have hle':=Nat.le_of_ble_eq_true hle
   refine⟨_,hp,fun κ h w b o hc=>?_⟩
   have hlen:((cs.drop off).take ti.size).length=ti.size:=by simp;omega
   have hex:∀ j,j<ti.size->∃ v,w.cell? ⟨b,o+(off+j),none⟩=some v/\∃ s,cs[off+j]? = some s/\RepSV L κ h w s v/\v.oneCell'=true:=by
    intro j hj
    obtain⟨v,h1,h2⟩:=hc (off+j) (cs[off+j]'(by omega)) (List.getElem?_eq_getElem (by omega))
    exact⟨v,h1,_,List.getElem?_eq_getElem (by omega),h2⟩
   let f:Nat->Value:=fun j=>(w.cell? ⟨b,o+(off+j),none⟩).getD undef
   have hf:∀ j,j<ti.size->w.cell? ((⟨b,o+off,none⟩:Addr).add j)=some (f j):=by
    intro j hj
    obtain⟨v,h1,_⟩:=hex j hj
    rw[P0]
    simp only[f,<-Nat.add_assoc]at h1 ⊢
    rw[h1];rfl
   refine⟨.agg ((List.range ti.size).map f).toArray,?_,(List.range ti.size).map f,rfl,by simp[hlen],fun j s c hj hcj=>?_⟩
   ·unfold loadVar
    rw[Sem.run_bind,Y0 hd,hagg,hag]
    simp only[Result.andThen_ok,if_true,Sem.run_bind,O6 hi,hisz,run_loadCells w _ ti.size f hf,Sem.run_pure]
   ·have hj':j<ti.size:=by
     have:=(List.getElem?_eq_some_iff.1 hj).1;omega
    obtain⟨v,h1,s',h2,h3,h4⟩:=hex j hj'
    rw[List.getElem?_take_of_lt hj',List.getElem?_drop,h2]at hj
    cases hj
    have:c=v:=by
     simp[hj']at hcj
     rw[<-hcj];simp only[f];rw[h1];rfl
    rw[this];exact⟨h3,h4⟩
 ·rename_i hag
  split at hp
  ·rename_i s hs
   refine⟨_,hp,fun κ h w b o hc=>?_⟩
   obtain⟨v,h1,h2,_⟩:=hc off s hs
   refine⟨v,?_,h2⟩
   unfold loadVar
   rw[Sem.run_bind,Y0 hd,hagg,hag]
   simp[h1]
  ·cases hp
theorem z5b {κ:A2} {h:Heap} {w:World} {l:List SV} {cs:List Value} {b:Nat} {ty:TypeId} {fr:Nat×Nat} (hh:w.heap[b]? = some (.cells cs.toArray ty fr))
  (hc:RepCells L κ h w l cs):∀ (i:Nat) (s:SV),l[i]? = some s->∃ v,w.cell? ⟨b,0+i,none⟩=some v/\RepSV L κ h w s v/\v.oneCell'=true:=by
 intro i s hi
 have hlt:i<cs.length:=by rw[hc.1];exact(List.getElem?_eq_some_iff.1 hi).1
 have hg:cs[i]? = some cs[i]:=List.getElem?_eq_getElem hlt
 refine⟨cs[i],?_,hc.2 i s _ hi hg⟩
 simp[World.cell?,hh,hlt]
theorem q9b {κ:A2} {h:Heap} {w:World} {id:Nat} {e:TypeId} {t:Ty} {l:List t.den} (hr:RepArr L κ h w id e t l) {b i:Nat} {cap:Nat×Nat} {y:t.den} (hk:κ id=some (b,cap)) (hy:l[i]? = some y) :
  RepAt w (A4 L κ h w) t (fun j=>if j<t.size then w.cell? ⟨b,cap.2+i*t.size+j,none⟩else none) y:=by
 rcases hr with⟨hk',_⟩ | ⟨b',cap',cur,hk',hcell,_,_,_,_,hel⟩
 ·rw[hk]at hk';cases hk'
 ·rw[hk]at hk';simp at hk';obtain⟨rfl,rfl⟩:=hk'
  refine RepAt.congr t _ _ y (fun c hc=>?_) (hel i y hy)
  simp only[hc,if_true]
  simp[World.cell?,hcell]
theorem z5o {κ:A2} {h:Heap} {w:World} {t:Ty} {y:t.den} {b o:Nat}
  (hr:RepAt w (A4 L κ h w) t (fun j=>if j<t.size then w.cell? ⟨b,o+j,none⟩else none) y) :
  ∀ (i:Nat) (s:SV),(F6 t y)[i]? = some s->∃ v,w.cell? ⟨b,o+i,none⟩=some v/\RepSV L κ h w s v/\v.oneCell'=true:=by
 intro i s hi
 obtain⟨v,h1,h2⟩:=S0 t _ y hr i s hi
 have hlt:i<t.size:=by
  have:=(List.getElem?_eq_some_iff.1 hi).1
  rw[P1]at this;exact this
 simp only[hlt,if_true]at h1
 exact⟨v,h1,h2⟩
theorem q3s {a:Act} {o:Oper} {T:TypeId} {x:Operand} {ad:Addr} (ho:o.op=.load T x) (hx:a.eval x=.pointer (some ad)) (w:World) {v:Value}
  (h:(loadVar T ad).run P w=.ok v w):(execOp a.eval o).run P w=.ok (.value v) w:=by
 unfold execOp
 rw[ho]
 simp[Instr.loadAt,Instr.sureAddr,hx,h]
theorem j0r {R:Type} {o:Oper} {T:TypeId} {x:Operand} {ti:TInfo} (hti:ti.OK P T) (ho:o.op=.load T x) {ρ:Env} {h:Heap} {K:Eff->Option R} {z:R}
  (he:q3n ti h (ev ρ x) K=some z):∃ e,K e=some z/\e.full=none/\∀ ρs hs,ev ρs x=ev ρ x->(∀ id∈e.rd,hs id=h id)->A6 P L w0 o ρs hs (e.heap hs) e.av:=by
 have hdef:∀ c,o.op≠.defer c:=fun c hc=>by rw[ho]at hc;cases hc
 unfold q3n at he
 split at he
 ·rename_i id off hx
  split at he
  ·rename_i l hid
   obtain⟨av,h1,h2⟩:=q4e (L:=L) hti he
   refine⟨_,h1,rfl,fun ρs hs hρ hh=>C6 hdef fun κ a w hev ok=>?_⟩
   have hxr:=hev x
   rw[hρ,hx]at hxr
   obtain⟨_,b,c,hk,hv⟩:=hxr
   have hob:=ok.obj id
   rw[hh id (by simp[E2]),hid]at hob
   obtain⟨b',c',cs,ty,hk',hheap,hcs⟩:=hob
   rw[hk]at hk';simp at hk';obtain⟨rfl,rfl⟩:=hk'
   obtain⟨v,hv1,hv2⟩:=h2 κ hs w b 0 (z5b hheap hcs)
   rw[Nat.zero_add]at hv1
   exact⟨v,q3s ho hv w hv1,hv2⟩
  ·cases he
 ·rename_i id t i c hx
  have key:∀ (e':TypeId) (l:List t.den),(h id=.arr e' t l\/h id=.ice e' t l)->((l[i]?).bind fun y=>U6 ti (F6 t y) c fun av=>K (E2 av [id]))=some z ->
    ∃ e,K e=some z/\e.full=none/\∀ ρs hs,ev ρs x=ev ρ x->(∀ id∈e.rd,hs id=h id)->A6 P L w0 o ρs hs (e.heap hs) e.av:=by
   intro e' l hid hb
   cases hy:l[i]? with
   | none=>rw[hy]at hb;cases hb
   | some y =>
    rw[hy]at hb
    simp only[Option.bind_some]at hb
    obtain⟨av,h1,h2⟩:=q4e (L:=L) hti hb
    refine⟨_,h1,rfl,fun ρs hs hρ hh=>C6 hdef fun κ a w hev ok=>?_⟩
    have hxr:=hev x
    rw[hρ,hx]at hxr
    obtain⟨_,b,cap,hk,hv⟩:=hxr
    have hob:=ok.obj id
    have hrep:RepArr L κ hs w id e' t l:=by
     rcases hid with hid | hid<;>rw[hh id (by simp[E2]),hid]at hob
     ·exact hob
     ·exact hob.1
    obtain⟨v,hv1,hv2⟩:=h2 κ hs w b (cap.2+i*t.size) (z5o (q9b hrep hk hy))
    exact⟨v,q3s ho hv w hv1,hv2⟩
  split at he
  ·rename_i e' t' l hid
   split at he
   ·rename_i ht _;subst ht;exact key e' l (.inl hid) he
   ·cases he
  ·rename_i e' t' l hid
   split at he
   ·rename_i ht _;subst ht;exact key e' l (.inr hid) he
   ·cases he
  ·cases he
 ·rename_i t y c hx
  obtain⟨av,h1,h2⟩:=q4e (L:=L) hti he
  refine⟨_,h1,rfl,fun ρs hs hρ hh=>C6 hdef fun κ a w hev ok=>?_⟩
  have hxr:=hev x
  rw[hρ,hx]at hxr
  obtain⟨b,o',hv,hf,hr⟩:=hxr
  obtain⟨v,hv1,hv2⟩:=h2 κ hs w b o' (z5o hr)
  exact⟨v,q3s ho hv w hv1,hv2⟩
 ·rename_i k y hx
  obtain⟨av,h1,h2⟩:=q4e (L:=L) hti he
  refine⟨_,h1,rfl,fun ρs hs hρ hh=>C6 hdef fun κ a w hev ok=>?_⟩
  have hxr:=hev x
  rw[hρ,hx]at hxr
  obtain⟨b,o',hv,hst,hc⟩:=hxr
  obtain⟨v,hv1,hv2⟩:=h2 κ hs w b o' (fun i s hi=>by
   cases i with
   | zero =>
    simp only[List.getElem?_cons_zero,Option.some.injEq]at hi
    subst hi
    exact⟨_,hc,⟨rfl,rfl,rfl⟩,rfl⟩
   | succ i=>simp at hi)
  exact⟨v,q3s ho hv w (by simpa using hv1),hv2⟩
 ·cases he
end Go.Abs
