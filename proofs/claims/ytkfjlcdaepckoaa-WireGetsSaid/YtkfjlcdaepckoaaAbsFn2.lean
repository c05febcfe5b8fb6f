/- The engine, part 20: a function keeps the contract that the evaluator finds. -/
import Derived.Test.YtkfjlcdaepckoaaAbsFn
namespace Go.Abs
open Go Go.RowKit
variable {P:Program} {L:Nat->Prop} {w0:World}
theorem z9y {w:World} {A A':Nat->Prop} (hA:∀ b,A b->A' b) {agg:Bool} {t:Ty} {v:Value} {x:t.den} (h:RepVal w A agg t v x):RepVal w A' agg t v x:=by
 have hm:∀ b,A b->A' b/\w.heap[b]? = w.heap[b]?:=fun b hb=>⟨hA b hb,rfl⟩
 cases agg with
 | false=>exact⟨h.1,h.2.1,RepAt.mono hm t _ _ h.2.2⟩
 | true=>obtain⟨cs,c1,c2,c3,c4⟩:=h;exact⟨cs,c1,c2,c3,RepAt.mono hm t _ _ c4⟩
def j9l (h:Heap):Option Nat->Prop
 | none=>True
 | some id=>∃ e t l,h id=.arr e t l
theorem z9z {w:World} {A:Nat->Prop} {base:Nat} {bo bo':Option (Nat×(Nat×Nat))}:∀ {rs:List RTy} {vs:List Value} {y:I0 rs},M9 rs=0->Q0 w A base bo rs vs y->Q0 w A base bo' rs vs y
 | [],[],_,_,h=>h
 | [],_::_,_,_,h=>h
 | .val _ _::_,[],_,_,h=>h
 | .own _ _::_,[],_,_,h=>h
 | .val agg t::r,v::vs,y,hc,h=>⟨h.1,z9z (by simpa[M9,RTy.isOwn]using hc) h.2⟩
 | .own e t::r,v::vs,y,hc,h=>by simp[M9,RTy.isOwn]at hc
theorem q4x {R:Type} {h:Heap}:∀ (rs:List RTy) (avs:List AV) (K:I0 rs->List Nat->Option Nat->Option R) (z:R),L6 h rs avs K=some z ->
  ∃ y ids o,K y ids o=some z/\j9l h o/\∀ κ w (vals:List Value),vals.length=avs.length->(∀ (i:Nat) (av:AV) (v:Value),avs[i]? = some av->vals[i]? = some v->RepAV L κ h w av v)->HeapOK L w0 κ h w ->
   ∀ h2,Ext L κ h w κ h2 w->(∀ id∈ids,q1i (h id)->∀ b c,κ id=some (b,c)->A4 L κ h2 w b)->(∀ id,o=some id->h2 id=h id) ->
   ∀ (A:Nat->Prop),(∀ b,A4 L κ h2 w b->A b)->(∀ id e t l,o=some id->h id=.arr e t l->∀ b,A4 L κ h w b->A b)->Q0 w A w0.heap.size (o.bind κ) rs vals y
 | [],[],K,z,he=>⟨(),[],none,he,trivial,fun κ w vals hl _ _ _ _ _ _ _ _ _=>by
  cases vals with
  | nil=>trivial
  | cons v vs=>simp at hl⟩
 | [],_::_,K,z,he=>by simp[L6]at he
 | .val _ _::_,[],K,z,he=>by simp[L6]at he
 | .own _ _::_,[],K,z,he=>by simp[L6]at he
 | .val agg t::r,v::vs,K,z,he=>by
  simp only[L6]at he
  split at he
  ·rename_i y0 ids0 h0
   obtain⟨ys,ids,o,h1,h2,h3⟩:=q4x r vs _ z he
   refine⟨_,_,o,h1,h2,fun κ w vals hl hr ok hh x hids ho A hA hA'=>?_⟩
   cases vals with
   | nil=>simp at hl
   | cons u us =>
    have ha:=q1k ok x [(agg,t)] [v] [u] y0 ids0 rfl (fun i av v' g1 g2=>by
     cases i with
     | zero=>simp at g1 g2;subst g1;subst g2;exact hr 0 _ _ rfl rfl
     | succ i=>simp at g1) h0 (fun id hm=>hids id (List.mem_append_left _ hm))
    exact⟨z9y hA ha.1,h3 κ w us (by simpa using hl) (fun i av v' g1 g2=>hr (i+1) av v' (by simpa using g1) (by simpa using g2)) ok hh x (fun id hm=>hids id (List.mem_append_right _ hm)) ho A hA hA'⟩
  ·cases he
 | .own e t::r,v::vs,K,z,he=>by
  cases v with
  | agg l=>simp[L6]at he
  | tup l=>simp[L6]at he
  | one s =>
   cases s with
   | nils =>
    simp only[L6]at he
    obtain⟨ys,ids,o,h1,h2,h3⟩:=q4x r vs _ z he
    cases o with
    | some id=>cases h1
    | none =>
     refine⟨_,ids,none,h1,trivial,fun κ w vals hl hr ok hh x hids ho A hA hA'=>?_⟩
     cases vals with
     | nil=>simp at hl
     | cons u us =>
      have hu:u=.slice none 0 0:=hr 0 _ u rfl rfl
      exact⟨.inl ⟨rfl,rfl,hu⟩,h3 κ w us (by simpa using hl) (fun i av v' g1 g2=>hr (i+1) av v' (by simpa using g1) (by simpa using g2)) ok hh x hids ho A hA hA'⟩
   | own id =>
    simp only[L6]at he
    split at he
    ·rename_i e' t' l hid
     split at he
     ·rename_i l' hl'
      obtain⟨hee,he2⟩:=A7 he
      rw[Bool.and_eq_true]at hee
      have hoc:=Nat.eq_of_beq_eq_true hee.2
      have hee:=Nat.eq_of_beq_eq_true hee.1
      obtain⟨htt,hxx⟩:=G4 hl'
      cases htt
      change l=l' at hxx
      subst hxx;subst hee
      obtain⟨ys,ids,o,h1,h2,h3⟩:=q4x r vs _ z he2
      cases o with
      | some id=>cases h1
      | none =>
       refine⟨_,ids,some id,h1,⟨_,_,_,hid⟩,fun κ w vals hl hr ok hh x hids ho A hA hA'=>?_⟩
       cases vals with
       | nil=>simp at hl
       | cons u us =>
        have hrest:=h3 κ w us (by simpa using hl) (fun i av v' g1 g2=>hr (i+1) av v' (by simpa using g1) (by simpa using g2)) ok hh x hids (fun _ h=>by cases h) A hA (fun _ _ _ _ h=>by cases h)
        refine⟨?_,z9z hoc hrest⟩
        have hu:RepSV L κ h w (.own id) u:=hr 0 _ u rfl rfl
        have hu:=hu.1
        rw[hid]at hu
        have hob:=ok.obj id
        rw[hid]at hob
        rcases hu with⟨a1,a2,a3⟩ | ⟨b,cap,a1,a2⟩
        ·exact .inl ⟨a1,a2,a3⟩
        ·rcases hob with⟨b1,_⟩ | ⟨b',cap',cur,b1,b2,b3,b4,b5,b6,b7⟩
         ·rw[a1]at b1;cases b1
         ·rw[a1]at b1;cases b1
          refine .inr ⟨b,cap,cur,a1,a2,(ok.own id b cap (by rw[hid];rfl) a1).1,b2,b3,b4,b5,b6,fun i y hy=>?_⟩
          have:=RepAt.mono (A':=A) (w':=w) (fun b hb=>⟨hA' id _ _ _ rfl hid b hb,rfl⟩) _ _ y (b7 i y hy)
          simpa[Nat.add_assoc]using this
     ·cases he
    ·cases he
   | _=>simp[L6]at he
theorem z35 {fn:Func} {a:Act} {w:World} {vals:List Value} (h:(fn.results.toList.mapM (q13 a)).run P w=.ok vals w):(results fn a.tmps).run P w=.ok (Y3 vals) w:=by
 have h1:results fn a.tmps=(fn.results.mapM (q13 a) >>= fun vs=>pure (if h:vs.size=1 then vs[0]else .tuple vs)):=by
  unfold results
  congr 1
 rw[h1,Array.mapM_eq_mapM_toList]
 simp[h]
 match vals with
 | []=>rfl
 | [v]=>rfl
 | _::_::_=>simp[Y3]
theorem RepAt.cellsEq {w w':World} {A A':Nat->Prop} (hA:∀ b,A b->A' b) (hc:∀ a:Addr,w'.cell? a=w.cell? a) (hm:∀ (b:Nat) es cl,w.heap[b]? = some (Obj.map es cl)->w'.heap[b]? = some (Obj.map es cl)):∀ (t:Ty) (get:Nat->Option Value) (x:t.den),RepAt w A t get x->RepAt w' A' t get x
 | .int _,_,_,h=>h
 | .bool,_,_,h=>h
 | .nil,_,_,_=>trivial
 | .cons a b,get,x,h=>⟨RepAt.cellsEq hA hc hm a get x.1 h.1,RepAt.cellsEq hA hc hm b _ x.2 h.2⟩
 | .list e,get,x,h=>by
  obtain⟨sa,len,cap,hg,hl,hcap,hx⟩:=h
  refine⟨sa,len,cap,hg,hl,hcap,fun hne=>?_⟩
  obtain⟨b,o,hs,hAb,hel⟩:=hx hne
  refine⟨b,o,hs,hA b hAb,fun i y hi=>?_⟩
  have:=RepAt.cellsEq hA hc hm e _ y (hel i y hi)
  simp only[hc]
  exact this
 | .map ak av k v,get,x,h=>by
  obtain⟨b,es,cl,h1,h2,h3,h4⟩:=h
  exact⟨b,es,cl,h1,hA b h2,hm _ _ _ h3,h4.imp (fun y u hu=>hu.imp fun g hg=>RepAt.cellsEq hA hc hm k g y hg) (fun y u hu=>hu.imp fun g hg=>RepAt.cellsEq hA hc hm v g y hg)⟩
structure SameCells (L:Nat->Prop) (κ:A2) (h:Heap) (w w':World):Prop where
 cell:∀ a:Addr,w'.cell? a=w.cell? a
 size:w'.heap.size=w.heap.size
 maps:∀ (b:Nat) es cl,w.heap[b]? = some (Obj.map es cl)->w'.heap[b]? = some (Obj.map es cl)
theorem SameCells.at {κ:A2} {h:Heap} {w w':World} (x:SameCells L κ h w w') {t:Ty} {get:Nat->Option Value} {v:t.den} (hr:RepAt w (A4 L κ h w) t get v):RepAt w' (A4 L κ h w') t get v :=
 RepAt.cellsEq (fun b hb=>⟨by rw[x.size];exact hb.1,hb.2⟩) x.cell x.maps t get v hr
theorem SameCells.val {κ:A2} {h:Heap} {w w':World} (x:SameCells L κ h w w') {agg:Bool} {t:Ty} {v:Value} {y:t.den} (hr:RepVal w (A4 L κ h w) agg t v y):RepVal w' (A4 L κ h w') agg t v y:=by
 cases agg with
 | true=>obtain⟨cs,h1,h2,h3,h4⟩:=hr;exact⟨cs,h1,h2,h3,x.at h4⟩
 | false=>exact⟨hr.1,hr.2.1,x.at hr.2.2⟩
theorem SameCells.map {κ:A2} {h:Heap} {w w':World} (x:SameCells L κ h w w') {ak av:Bool} {tk tv:Ty} {l:List (tk.den×tv.den)} {es:Array MapEntry} {clock:Nat}
  (hr:MapRep w (A4 L κ h w) ak av tk tv l es clock):MapRep w' (A4 L κ h w') ak av tk tv l es clock where
 flat:=hr.flat
 rise:=hr.rise
 apart:=hr.apart
 early:=hr.early
 ents:=by
  obtain⟨p,h1,h2,h3⟩:=hr.ents
  exact⟨p,h1,h2,fun i y q a b=>⟨x.val (h3 i y q a b).1,x.val (h3 i y q a b).2⟩⟩
theorem SameCells.sv {κ:A2} {h:Heap} {w w':World} (x:SameCells L κ h w w'):∀ (s:SV) (v:Value),RepSV L κ h w s v->RepSV L κ h w' s v
 | .unk,_,_=>trivial
 | .sc _ _,_,⟨h1,h2,h3⟩=>⟨h1,h2,x.at h3⟩
 | .nils,_,hr=>hr
 | .nilp,_,hr=>hr
 | .udf,_,hr=>hr
 | .ne _ _,_,⟨h1,h2,h3⟩=>⟨h1,x.at h2,h3⟩
 | .nx,_,hr=>hr
 | .gl _,_,hr=>hr
 | .cstr _,_,hr=>hr
 | .gp _ _,_,⟨b,o,h1,h2,h3⟩=>⟨b,o,h1,⟨by rw[x.size];exact h2.1,h2.2⟩,by rw[x.cell];exact h3⟩
 | .own _,_,hr=>hr
 | .sub _ _ _,_,hr=>hr
 | .ptr _ _,_,hr=>hr
 | .eptr _ _ _ _,_,hr=>hr
 | .ro t y c,v,⟨b,o,h1,h2,h3⟩=>by
  refine⟨b,o,h1,⟨by rw[x.size];exact h2.1,h2.2⟩,?_⟩
  have:=x.at h3
  simp only[x.cell]
  exact this
 | .fn _ _,_,hr=>hr
 | .yld _,_,hr=>hr
 | .mp _,_,hr=>hr
 | .mpn,_,hr=>hr
 | .stmp _,_,hr=>hr
 | .csl _ _ _ _,_,hr=>hr
 | .nif,_,hr=>hr
 | .nilf,_,hr=>hr
 | .pan _,_,hr=>hr.elim
 | .ifc _ _ _,_,⟨us,h1,h2,h3,h4⟩=>⟨us,h1,h2,h3,fun i p u hp hu=>⟨(h4 i p u hp hu).1,(h4 i p u hp hu).2.1,x.at (h4 i p u hp hu).2.2⟩⟩
 | .bfp _ _ _,_,hr=>hr
 | .bfn _ _ _,_,⟨us,h1,h2,h3,h4⟩=>⟨us,h1,h2,h3,fun i p u hp hu=>⟨(h4 i p u hp hu).1,(h4 i p u hp hu).2.1,x.at (h4 i p u hp hu).2.2⟩⟩
theorem SameCells.cells {κ:A2} {h:Heap} {w w':World} (x:SameCells L κ h w w') {l:List SV} {cs:List Value} (hr:RepCells L κ h w l cs):RepCells L κ h w' l cs :=
 ⟨hr.1,fun i s c h1 h2=>⟨x.sv s c (hr.2 i s c h1 h2).1,(hr.2 i s c h1 h2).2⟩⟩
theorem SameCells.comp {κ:A2} {h:Heap} {w w':World} (x:SameCells L κ h w w'):∀ {c:Bool×List SV} {v:Value},RepComp L κ h w c v->RepComp L κ h w' c v
 | (true,_),_,⟨cs,h1,h2⟩=>⟨cs,h1,x.cells h2⟩
 | (false,[s]),v,hr=>x.sv s v hr
 | (false,[]),_,hr=>hr.elim
 | (false,_::_::_),_,hr=>hr.elim
theorem SameCells.av {κ:A2} {h:Heap} {w w':World} (x:SameCells L κ h w w'):∀ {v:AV} {u:Value},RepAV L κ h w v u->RepAV L κ h w' v u
 | .one s,u,hr=>x.sv s u hr
 | .agg _,_,⟨cs,h1,h2⟩=>⟨cs,h1,x.cells h2⟩
 | .tup _,_,⟨vs,h1,h2,h3⟩=>⟨vs,h1,h2,fun i c u a b=>x.comp (h3 i c u a b)⟩
theorem j0i {κ:A2} {h:Heap} {w:World} {b:Nat} (hb:w.heap[b]? = some (.deferred (some []))):SameCells L κ h w (w.putObj b (.deferred none)) where
 cell a:=by
  unfold World.cell?
  by_cases e:a.block=b
  ·rw[e,World.putObj_heap_same (Array.getElem?_eq_some_iff.1 hb).1,hb]
  ·rw[World.putObj_heap_other e]
 size:=by simp
 maps b' es cl h':=by rw[World.putObj_heap_other (fun e=>by rw[e,hb]at h';cases h')];exact h'
theorem q9c {κ:A2} {h:Heap} {w w':World} (x:SameCells L κ h w w') {id:Nat} {e:TypeId} {t:Ty} {l:List t.den} (hh:∀ (b:Nat) (c:Array Value) (ty:TypeId) (f:Nat×Nat),w.heap[b]? = some (Obj.cells c ty f)->w'.heap[b]? = some (Obj.cells c ty f))
  (hr:RepArr L κ h w id e t l):RepArr L κ h w' id e t l:=by
 rcases hr with⟨a,b⟩ | ⟨b,cap,cur,h1,h2,h3,h4,h5,h6,h7⟩
 ·exact .inl ⟨a,b⟩
 ·exact .inr ⟨b,cap,cur,h1,hh _ _ _ _ h2,h3,h4,h5,h6,fun i y hy=>x.at (h7 i y hy)⟩
theorem j7e {κ:A2} {h:Heap} {w w':World} (x:SameCells L κ h w w') {n:Nat} (hh:∀ (b:Nat) (c:Array Value) (ty:TypeId) (f:Nat×Nat),w.heap[b]? = some (Obj.cells c ty f)->w'.heap[b]? = some (Obj.cells c ty f)) :
  ∀ {t:KTy} {v:Value} {y:t.den},RepKid L κ h w n t v y->RepKid L κ h w' n t v y
 | .arr _ _,_,_,⟨h1,h2⟩=>⟨h1,q9c x hh h2⟩
 | .map _ _ _ _,_,none,hr=>hr
 | .map _ _ _ _,_,some _,⟨b,c,es,cl,h1,h2,h3,h4⟩=>⟨b,c,es,cl,h1,h2,x.maps _ _ _ h3,x.map h4⟩
 | .ptr _,_,none,hr=>hr
 | .ptr _,_,some _,⟨b,c,cs,ty,h1,h2,h3,h4,h5,h6⟩=>⟨b,c,cs,ty,h1,h2,hh _ _ _ _ h3,h4,h5,x.at h6⟩
theorem z95 {κ:A2} {h:Heap} {w w':World} (x:SameCells L κ h w w') {n:Nat} {o:Option Nat} (hh:∀ (b:Nat) (c:Array Value) (ty:TypeId) (f:Nat×Nat),w.heap[b]? = some (Obj.cells c ty f)->w'.heap[b]? = some (Obj.cells c ty f))
  {t:KTy} {v:Value} {y:t.den} (hr:RepPart L κ h w n o t v y):RepPart L κ h w' n o t v y:=by
 cases o with
 | none=>exact j7e x hh hr
 | some g=>exact⟨x.sv _ _ hr.1,hr.2⟩
theorem j6w {κ:A2} {h:Heap} {w:World} (ok:HeapOK L w0 κ h w) {b:Nat} (hb:w.heap[b]? = some (.deferred (some []))) (h0:w0.heap.size<=b):HeapOK L w0 κ h (w.putObj b (.deferred none)):=by
 have x:=j0i (L:=L) (κ:=κ) (h:=h) hb
 have hcl:∀ (b':Nat) (c:Array Value) (ty:TypeId) (f:Nat×Nat),w.heap[b']? = some (Obj.cells c ty f)->(w.putObj b (.deferred none)).heap[b']? = some (Obj.cells c ty f):=fun b' c ty f hc=>by
  rw[World.putObj_heap_other (fun e=>by rw[e,hb]at hc;cases hc)];exact hc
 refine⟨fun id=>?_,ok.inj,fun i b' c hi hk=>by rw[x.size];exact ok.own i b' c hi hk,ok.below.trans ⟨rfl,rfl,rfl,by simp,fun k hk=>World.putObj_heap_other (by omega),Nat.le_refl _⟩,fun b hL=>⟨by rw[x.size];exact(ok.outer b hL).1,(ok.outer b hL).2⟩,ok.kids⟩
 have ho:=ok.obj id
 cases hq:h id with
 | fresh=>trivial
 | dead=>trivial
 | kid=>trivial
 | arrD e t l f =>
  rw[hq]at ho
  rcases ho with a | ⟨b',cap,cur,h1,h2,h3,h4,h5,h6,h7⟩
  ·exact .inl a
  ·refine .inr ⟨b',cap,cur,h1,hcl _ _ _ _ h2,h3,h4,h5,h6,fun i y hy=>?_⟩
   obtain⟨v,v1,v2⟩:=h7 i y hy
   exact⟨v,v1,z95 x hcl v2⟩
 | mapD ak tk t l f =>
  rw[hq]at ho
  obtain⟨b',c',es,cl,h1,h2,h3⟩:=ho
  obtain⟨p,p1,p2,p3⟩:=h3.ents
  exact⟨b',c',es,cl,h1,x.maps _ _ _ h2,h3.flat,h3.rise,h3.apart,h3.early,p,p1,p2,fun i z q hz hq'=>⟨x.val (p3 i z q hz hq').1,(p3 i z q hz hq').2.1,z95 x hcl (p3 i z q hz hq').2.2⟩⟩
 | cells l =>
  rw[hq]at ho
  obtain⟨b',c',cs,ty,h1,h2,h3⟩:=ho
  exact⟨b',c',cs,ty,h1,hcl _ _ _ _ h2,x.cells h3⟩
 | arr e t l=>rw[hq]at ho;exact q9c x hcl ho
 | ice e t l=>rw[hq]at ho;exact⟨q9c x hcl ho.1,fun b' c hk=>⟨by rw[x.size];exact(ho.2 b' c hk).1,(ho.2 b' c hk).2⟩⟩
 | lrec i s =>
  rw[hq]at ho
  obtain⟨b',c',r,h1,h2,h3,h4,h5,h6,h7,h8,h9⟩:=ho
  exact⟨b',c',r,h1,by rw[World.putObj_heap_other (fun e=>by rw[e,hb]at h2;cases h2)];exact h2,h3,h4,h5,h6,h7,h8,fun t=>x.av (h9 t)⟩
 | mapo ak av tk tv l =>
  rw[hq]at ho
  obtain⟨b',c',es,cl,h1,h2,h3⟩:=ho
  exact⟨b',c',es,cl,h1,by rw[World.putObj_heap_other (fun e=>by rw[e,hb]at h2;cases h2)];exact h2,x.map h3⟩
 | mapp ak av tk tv l k g =>
  rw[hq]at ho
  obtain⟨b',c',es,cl,h1,h2,h3,h4,n,c2,h5,y,h6,h7,h8⟩:=ho
  exact⟨b',c',es,cl,h1,by rw[World.putObj_heap_other (fun e=>by rw[e,hb]at h2;cases h2)];exact h2,x.map h3,h4,n,c2,h5,y,h6,h7,x.val h8⟩
 | mice ak av tk tv l =>
  rw[hq]at ho
  obtain⟨b',c',es,cl,h1,h2,h3,h4⟩:=ho
  exact⟨b',c',es,cl,h1,⟨by rw[x.size];exact h2.1,h2.2⟩,x.maps _ _ _ h3,x.map h4⟩
 | iter ak av tk tv l cu =>
  rw[hq]at ho
  obtain⟨b',c',m,si,se,c0,h1,h2,h3⟩:=ho
  refine⟨b',c',m,si,se,c0,h1,by rw[World.putObj_heap_other (fun e=>by rw[e,hb]at h2;cases h2)];exact h2,⟨?_⟩⟩
  rcases h3.map with g | ⟨b4,es,cl,g1,g2,g3,g4,g5,g6,g7,⟨p,p1,p2,p3⟩,g9⟩
  ·exact .inl g
  ·refine .inr ⟨b4,es,cl,g1,⟨by rw[x.size];exact g2.1,g2.2⟩,x.maps _ _ _ g3,g4,g5,g6,g7,⟨p,p1,p2,fun i y q a b=>⟨x.val (p3 i y q a b).1,x.val (p3 i y q a b).2⟩⟩,fun q hq=>?_⟩
   obtain⟨e0,y,y1,y2,y3,y4⟩:=g9 q hq
   exact⟨e0,y,y1,y2,x.val y3,x.val y4⟩
theorem X3 {fn:Func} {tmps:Array Value} {m:Nat} {R:Ending->World->Prop} {κ:A2} {h:Heap} {B:Bd} (hB:w0.heap.size<=B.n) {u:FrameMode} (hu:u≠.run:=by intro h;cases h):∀ (ds:List Deferred) (w:World),MarksOK B ds w->HeapOK L w0 κ h w ->
  ∃ w',HeapOK L w0 κ h w'/\(∀ av v,RepAV L κ h w av v->RepAV L κ h w' av v)/\w'.heap.size=w.heap.size/\(∀ b,b<B.n->w'.heap[b]? = w.heap[b]?) /\
   (LeavesInM (Fr none) m P fn tmps R B.tl u w'->LeavesInM (Fr none) m P fn tmps R ds u w):=by
 intro ds w ⟨h0,bs,h1,h2,h3⟩ ok
 induction bs generalizing ds w with
 | nil=>subst h2;exact⟨w,ok,fun _ _ h=>h,rfl,fun _ _=>rfl,fun h=>h⟩
 | cons b bs ih =>
  subst h2
  obtain⟨hnb,hnd⟩:=List.nodup_cons.1 h1
  obtain⟨hBb,hb⟩:=h3 b List.mem_cons_self
  have ok':=j6w ok hb (Nat.le_trans hB hBb)
  obtain⟨w',g1,g2,g3,g4,g5⟩:=ih _ (w.putObj b (.deferred none)) (by simpa using h0) hnd rfl (fun b' hb'=>⟨(h3 b' (List.mem_cons_of_mem _ hb')).1,by
   rw[World.putObj_heap_other (fun e=>hnb (by rw[<-e];exact hb'))];exact(h3 b' (List.mem_cons_of_mem _ hb')).2⟩) ok'
  refine⟨w',g1,fun av v hr=>g2 av v ((j0i hb).av hr),by rw[g3];simp,fun b' hb'=>(g4 b' hb').trans (World.putObj_heap_other (by omega)),fun hres=>?_⟩
  exact⟨hu,.inl ⟨b,_,rfl,run_takeDeferred hb,g5 hres⟩⟩
theorem z0a {C:Ctx} {w:World} (hC:CtxOK P L w C) (hmix:P.follows .mixedOrders=true) {f:FuncId} {fn:Func} (hf:P.funcs[f]? = some fn) {an:Ann} {rs:List RTy} {st0:St} {y:I0 rs} (hy:q3m C fn an rs st0=some y)
  {κ0:A2} {vals:List Value} (sim0:Sim P L w ⟨w.heap.size,[]⟩ none κ0 st0 { tmps:=vals.toArray++Array.replicate (fn.ntmps-vals.toArray.size) undef,defers:=[] } w) (m:Nat) :
  CallsIn (Fr none) m P f vals.toArray w fun e w'=>∃ v,e=.returned v/\Below w.heap.size w w'/\O9 L w w' rs v y:=by
 unfold q3m at hy
 split at hy
 ·cases hy
 ·rename_i c hc
  obtain⟨k,st',hk,-,hrun⟩:=M6 hC hmix 0 c an _ _ _ y hy
  have fin:∀ {κ':A2} {a':Act} {w1:World},Sim P L w ⟨w.heap.size,[]⟩ none κ' st' a' w1->∀ k':XK,(k'=.nrm\/k'=.ret)->(X9 C st' fn.results.toList fun avs=>L6 st'.h rs avs fun y ids o=>cond (match o with
   | some id=>!D6 ids id
   | none=>true) (some y) none)=some y->bodyPostM (Fr none) m P fn (fun e w'=>∃ v,e=.returned v/\Below w.heap.size w w'/\O9 L w w' rs v y) k'.exit a' w1:=by
   intro κ' a' w1 sim k' hk' he
   obtain⟨avs,h1,h2⟩:=q4w (P:=P) (L:=L) (w0:=w) (fun t ti h=>hC.ti t ti h) fn.results.toList _ y he
   obtain⟨w',okE,avE,szE,-,leave⟩:=X3 (P:=P) (fn:=fn) (tmps:=a'.tmps) (m:=m) (u:=.returning) (R:=fun e w'=>∃ v,e=.returned v/\Below w.heap.size w w'/\O9 L w w' rs v y) (B:=⟨w.heap.size,[]⟩) (Nat.le_refl _) (by intro h;cases h) a'.defers w1 sim.defs sim.heap
   obtain⟨vals',g1,g2,g3,g4⟩:=h2 κ' a' w' (fun t=>avE _ _ (sim.env t)) okE
   obtain⟨y',ids,o,r1,r2,r3⟩:=q4x (L:=L) (w0:=w) rs avs _ y h1
   obtain⟨hno,r1⟩:=A7 r1
   cases r1
   obtain⟨i1,i2,i3⟩:=S6 (w0:=w) ids okE
   have hown:∀ id,o=some id->A5 (B0 st'.h ids) st'.h id=st'.h id:=fun id ho=>by
    subst ho
    simp only[Bool.not_eq_true']at hno
    exact S5 (fun hm=>by rw[memb_iff.2 hm]at hno;cases hno)
   have hA:∀ (hh:Heap),(∀ id,o=some id->hh id=st'.h id)->∀ b,A4 L κ' hh w' b->(b<w'.heap.size/\¬ L b/\∀ c,o.bind κ'≠some (b,c)):=fun hh hq b hb=>⟨hb.1,hb.2.1,fun c hbo=>by
    cases o with
    | none=>cases hbo
    | some id =>
     obtain⟨e,t,l,hid⟩:=r2
     exact hb.2.2 id c (by rw[hq id rfl,hid];rfl) hbo⟩
   have hres:=r3 κ' w' vals' g2 g4 okE _ i2 i3 hown (fun b=>b<w'.heap.size/\¬ L b/\∀ c,o.bind κ'≠some (b,c)) (hA _ hown) (fun id e t l ho hid b hb=>hA st'.h (fun _ _=>rfl) b hb)
   have hall:LeavesInM (Fr none) m P fn a'.tmps (fun e w'=>∃ v,e=.returned v/\Below w.heap.size w w'/\O9 L w w' rs v y) a'.defers .returning w1 :=
    leave ⟨_,z35 g1,_,rfl,okE.below,o.bind κ',vals',rfl,hres⟩
   cases k' with
   | nrm=>exact hall
   | ret=>exact hall
   | ex i=>rcases hk' with h | h<;>cases h
   | pan T=>rcases hk' with h | h<;>cases h
  refine callsIn_of_wp_marks hf hc trivial ?_
  refine hrun ⟨w.heap.size,[]⟩ none m _ _ w _ sim0 fun κ' a' w' sim ext lk=>?_
  cases k with
  | nrm=>exact fin sim .nrm (.inl rfl) hk
  | ret=>exact fin sim .ret (.inr rfl) hk
  | ex i=>cases hk
  | pan T=>cases hk
theorem F1 {C:Ctx} (hC:∀ L w0,GlobOK C.glob w0->CtxOK P L w0 C) (hmix:P.follows .mixedOrders=true) {f:FuncId} {fn:Func} (hf:P.funcs[f]? = some fn) (hname:(fn.name== "runtime.NumGoroutine")=false) {an:Ann} {as:List (Bool×Ty)} {rs:List RTy}
  {g:H6 as->Option (I0 rs)} (hb:fn.body.isSome=true) (hg:∀ x,z5y C fn an as rs x=g x):FunOK' P C.glob f { args:=as,res:=rs,f:=g }:=by
 refine⟨fun x y hy L w vals hG hL hargs m=>?_,fn,hf,hb,hname⟩
 simp only at hy hargs ⊢
 rw[<-hg x]at hy
 unfold z5y at hy
 obtain⟨hn,hy⟩:=A7 hy
 exact z0a (hC L w hG) hmix hf hy (z4l hL hargs (Nat.le_of_ble_eq_true hn)) m
theorem j68 {C:Ctx} (hC:∀ L w0,GlobOK C.glob w0->CtxOK P L w0 C) (hmix:P.follows .mixedOrders=true) {f:FuncId} {fn:Func} (hf:P.funcs[f]? = some fn) (hname:(fn.name== "runtime.NumGoroutine")=false) {an:Ann} {e:Ty} {rs:List RTy}
  {g:H6 [(false,.list e)]->Option (I0 rs)} (hb:fn.body.isSome=true) (hn:1<=fn.ntmps) (h1:q3m C fn an rs (q79 (.one .nx) fn.ntmps)=g ([],())) (h2:∀ l,q3m C fn an rs (q79 (.one (.ne e l)) fn.ntmps)=g (l,())) :
  FunOK' P C.glob f { args:=[(false,.list e)],res:=rs,f:=g }:=by
 refine⟨fun x y hy L w vals hG hL hargs m=>?_,fn,hf,hb,hname⟩
 simp only at hy hargs ⊢
 obtain⟨l,u⟩:=x
 cases u
 match vals,hargs with
 | [v],hargs =>
  obtain⟨⟨_,ho,hr⟩,-⟩:=hargs
  obtain⟨sa,len,cap,hv,hlen,hcap,hx⟩:=hr
  have hv:v=.slice sa len cap:=by simpa[E3]using hv
  have sim:∀ av:AV,RepAV L (fun _=>none) U2 w av v->Sim P L w ⟨w.heap.size,[]⟩ none (fun _=>none) (q79 av fn.ntmps) { tmps:=[v].toArray++Array.replicate (fn.ntmps - [v].toArray.size) undef,defers:=[] } w:=fun av hav=>by
   refine⟨by simp[q79];omega,fun t=>?_,z8o hL,MarksOK.nil (Nat.le_refl _),fun l hl=>by cases hl⟩
   show RepAV L _ _ _ (upd (fun _=>AV.one .unk) 0 av t) _
   by_cases ht:t=0
   ·subst ht
    rw[A1]
    have hg:([v].toArray++Array.replicate (fn.ntmps - [v].toArray.size) undef).getD 0 undef=v:=by simp[Array.getD_eq_getD_getElem?,Array.getElem?_append]
    show RepAV L _ _ _ av (([v].toArray++Array.replicate (fn.ntmps - [v].toArray.size) undef).getD 0 undef)
    rw[hg];exact hav
   ·rw[A0 _ _ ht];trivial
  cases sa with
  | none =>
   have hl:l=[]:=by
    cases l with
    | nil=>rfl
    | cons a r=>obtain⟨b,o,h,_⟩:=hx (by simp);cases h
   subst hl
   have h0:len=0:=by simpa using hlen
   subst h0
   rw[<-h1]at hy
   exact z0a (hC L w hG) hmix hf hy (sim _ ⟨cap,hv⟩) m
  | some ad =>
   rw[<-h2]at hy
   refine z0a (hC L w hG) hmix hf hy (sim _ ⟨ho,⟨some ad,len,cap,by simp[E3,hv],hlen,hcap,fun hne=>?_⟩,ad,len,cap,hv⟩) m
   obtain⟨b,o,q1,q2,q3⟩:=hx hne
   exact⟨b,o,q1,⟨q2.1,q2.2,fun _ _ _ h=>by cases h⟩,fun i y hi=>RepAt.mono (fun b hb=>⟨⟨hb.1,hb.2,fun _ _ _ h=>by cases h⟩,rfl⟩) e _ y (q3 i y hi)⟩
theorem z7z {κ:A2} {h:Heap} {w:World}:∀ (args:List AV) (vals:List Value) (i:Nat),vals.length=args.length->(∀ (j:Nat) (a:AV) (v:Value),args[j]? = some a->vals[j]? = some v->RepAV L κ h w a v) ->
  (∀ (j:Nat) (v:Value),vals[j]? = some v->RepAV L κ h w (S7 i args (i+j)) v)/\∀ t,t<i\/i+args.length<=t->S7 i args t=.one .unk
 | [],[],i,_,_=>⟨fun j v hj=>by simp at hj,fun _ _=>rfl⟩
 | [],_::_,_,hl,_=>by simp at hl
 | _::_,[],_,hl,_=>by simp at hl
 | a::r,v::vs,i,hl,hr=>by
  obtain⟨i1,i2⟩:=z7z r vs (i+1) (by simpa using hl) (fun j a v h1 h2=>hr (j+1) a v (by simpa using h1) (by simpa using h2))
  refine⟨fun j u hj=>?_,fun t ht=>?_⟩
  ·simp only[S7]
   cases j with
   | zero =>
    simp at hj;subst hj
    show RepAV L κ h w (upd (S7 (i+1) r) i a i) v
    rw[A1]
    exact hr 0 a v rfl rfl
   | succ j =>
    rw[A0 _ _ (by omega),show i+(j+1)=i+1+j from by omega]
    exact i1 j u (by simpa using hj)
  ·simp only[List.length_cons]at ht
   simp only[S7]
   rw[A0 _ _ (by omega)]
   exact i2 t (by omega)
theorem z23 {κ:A2} {h:Heap} {w:World} {lo:Nat->Bool} {args:List AV} {vals:List Value} {n:Nat} (hl:vals.length=args.length) (hr:∀ (j:Nat) (a:AV) (v:Value),args[j]? = some a->vals[j]? = some v->RepAV L κ h w a v) (ok:HeapOK L w0 κ h w) (hn:args.length<=n) :
  Sim P L w0 ⟨w.heap.size,[]⟩ none κ { ρ:=S7 0 args,h,lt:=fun _=>false,lo,n } { tmps:=vals.toArray++Array.replicate (n-vals.toArray.size) undef,defers:=[] } w:=by
 obtain⟨h1,h2⟩:=z7z (L:=L) (κ:=κ) (h:=h) (w:=w) args vals 0 hl hr
 refine⟨by simp;omega,fun t=>?_,ok,MarksOK.nil (Nat.le_refl _),fun l hl=>by cases hl⟩
 by_cases ht:t<vals.length
 ·have:=h1 t vals[t] (List.getElem?_eq_getElem ht)
  rw[Nat.zero_add]at this
  have hg:(vals.toArray++Array.replicate (n-vals.toArray.size) undef).getD t undef=vals[t]:=by
   simp[Array.getD_eq_getD_getElem?,Array.getElem?_append,ht]
  show RepAV L _ _ _ (S7 0 args t) _
  rw[hg];exact this
 ·show RepAV L _ _ _ (S7 0 args t) _
  rw[h2 t (by omega)]
  trivial
theorem y0i {κ:A2} {h:Heap} {w:World} {avs:List AV} {vals:List Value} (hl:vals.length=avs.length) (hnt:avs.all z8q=true) (hr:∀ (i:Nat) (av:AV) (v:Value),avs[i]? = some av->vals[i]? = some v->RepAV L κ h w av v) :
  RepAV L κ h w (q7z avs) (Y3 vals):=by
 have gen:q7z avs=.tup (avs.map z5g)->Y3 vals=.tuple vals.toArray->RepAV L κ h w (q7z avs) (Y3 vals):=fun h1 h2=>by
  rw[h1,h2]
  refine⟨vals,rfl,by simpa using hl,fun i c u hc hu=>?_⟩
  rw[List.getElem?_map]at hc
  cases hav:avs[i]? with
  | none=>rw[hav]at hc;cases hc
  | some av =>
   rw[hav]at hc
   cases hc
   have h3:=hr i av u hav hu
   have h4:=List.all_eq_true.1 hnt av (List.mem_of_getElem? hav)
   cases av with
   | one s=>exact h3
   | agg l=>exact h3
   | tup l=>cases h4
 match avs,vals,hl,hr,gen with
 | [a],[v],_,hr,_=>exact hr 0 a v rfl rfl
 | [],[],_,_,gen=>exact gen rfl rfl
 | _::_::_,_::_::_,_,_,gen=>exact gen rfl rfl
theorem j01 {κ:A2} {h:Heap} {w:World}:∀ (ps:List Tmp) (args:List AV) (vals:List Value) (ρ:Env) (tmps:Array Value),args.length=ps.length->vals.length=ps.length->(∀ t∈ps,t<tmps.size) ->
  (∀ (i:Nat) (a:AV) (v:Value),args[i]? = some a->vals[i]? = some v->RepAV L κ h w a v)->(∀ t,RepAV L κ h w (ρ t) (tmps.getD t undef)) ->
  ((ps.zip vals).foldl (fun tmps (t,a)=>tmps.setIfInBounds t a) tmps).size=tmps.size/\∀ t,RepAV L κ h w (q83 ps args ρ t) (((ps.zip vals).foldl (fun tmps (t,a)=>tmps.setIfInBounds t a) tmps).getD t undef)
 | [],_,_,_,_,_,_,_,_,he=>⟨rfl,by simpa[q83]using he⟩
 | _::_,[],_,_,_,h1,_,_,_,_=>by simp at h1
 | _::_,_::_,[],_,_,_,h1,_,_,_=>by simp at h1
 | p::ps,a::args,v::vals,ρ,tmps,h1,h2,h3,h4,h5=>by
  obtain⟨g1,g2⟩:=j01 ps args vals (upd ρ p a) (tmps.setIfInBounds p v) (by simpa using h1) (by simpa using h2) (fun t ht=>by simpa using h3 t (List.mem_cons_of_mem _ ht))
   (fun i a v hi hv=>h4 (i+1) a v (by simpa using hi) (by simpa using hv)) (fun t=>by
    by_cases ht:t=p
    ·subst ht
     rw[A1]
     simp only[Array.getD_eq_getD_getElem?,Array.getElem?_setIfInBounds_self_of_lt (h3 t List.mem_cons_self),Option.getD_some]
     exact h4 0 a v rfl rfl
    ·rw[A0 _ _ ht]
     simp only[Array.getD_eq_getD_getElem?,Array.getElem?_setIfInBounds_ne (Ne.symm ht)]
     have:=h5 t
     simpa[Array.getD_eq_getD_getElem?]using this)
  exact⟨by simpa using g1,g2⟩
theorem z9g {κ:A2} {h:Heap} {w:World} (ok:HeapOK L w0 κ h w) {id:Nat} {i:RI} {s:RS} (hid:h id=.lrec i s) (s':RS) :
  ∃ b c,κ id=some (b,c)/\∃ r:Loop,w.heap[b]? = some (.loop r)/\r.state=s.state/\r.pending=s.pend/\∀ r':Loop,r'.state=s'.state->r'.pending=s'.pend->r'.params=r.params->r'.assign=r.assign->r'.body=r.body->r'.tmps=r.tmps ->
   HeapOK L w0 κ (upd h id (.lrec i s')) (w.putObj b (.loop r'))/\Ext L κ h w κ (upd h id (.lrec i s')) (w.putObj b (.loop r')):=by
 have ho:=ok.obj id
 rw[hid]at ho
 obtain⟨b,c,r,p1,p2,p3,p4,p5,p6,p7,p8,p9⟩:=ho
 refine⟨b,c,p1,r,p2,p3,p4,fun r' q1 q2 q3 q4 q5 q6=>?_⟩
 have hsize:(w.putObj b (.loop r')).heap.size=w.heap.size:=by simp
 have hlt:b<w.heap.size:=(Array.getElem?_eq_some_iff.1 p2).1
 have hnew:(w.putObj b (.loop r')).heap[b]? = some (.loop r'):=World.putObj_heap_same hlt
 have hoth:∀ b',b'≠b->(w.putObj b (.loop r')).heap[b']? = w.heap[b']?:=fun b' hb=>World.putObj_heap_other hb
 have hlike:(h id).like (.lrec i s'):=by rw[hid];exact rfl
 have e:=N5 (L:=L) (κ:=κ) (h:=h) p1 hlike (.inr ⟨r,_,p2,hnew⟩) hsize hoth
 have hown:=ok.own id b c (by rw[hid];rfl) p1
 exact⟨P3 ok p1 hlike hsize hoth (ok.below.trans ⟨rfl,rfl,rfl,by simp,fun b' hb=>hoth b' (by omega),Nat.le_refl _⟩)
  ⟨b,c,r',p1,hnew,q1,q2,q3.trans p5,q4.trans p6,q5.trans p7,by rw[q6];exact p8,fun t=>by rw[q6];exact RepAV.ext e (p9 t)⟩,e⟩
def j3f (P:Program) (L:Nat->Prop) (w0:World) (f:FuncId) (g:List AV->Heap->(Nat->Bool)->Nat->(R:Type)->(AV->Heap->Option R)->Option R):Prop :=
 ∀ args h lo ib (R:Type) (K:AV->Heap->Option R) (z:R),g args h lo ib R K=some z->∃ av h',K av h'=some z/\(∀ id,lo id=true->h' id=h id) /\
  ∀ κ w (vals:List Value),vals.length=args.length->(∀ (i:Nat) (a:AV) (v:Value),args[i]? = some a->vals[i]? = some v->RepAV L κ h w a v)->HeapOK L w0 κ h w ->
   ∀ m,CallsIn (Fr none) m P f vals.toArray w fun e w'=>∃ v κ',e=.returned v/\HeapOK L w0 κ' h' w'/\RepAV L κ' h' w' av v/\Ext L κ h w κ' h' w'
def q52:List Addr->List Value->World->World
 | a::as,v::vs,w=>q52 as vs (w.setCell a v)
 | _,_,w=>w
structure DefF (P:Program) (di:DefI):Prop where
 fn:∃ fn,P.funcs[di.g]? = some fn/\fn.body.isSome=true/\(fn.name== "runtime.NumGoroutine")=false
 ret:∀ (as:List Addr) (w:World) (m:Nat),as.length=di.vs.length->CallsDIn (Fr none) m P di.g (as.map fun a=>Value.pointer (some a)).toArray .returning w fun e u w'=>(∃ v,e=.returned v)/\u=.returning/\w'=w
 pan:∀ (as:List Addr) (w:World) (m:Nat) (us:List Value),as.length=di.vs.length->di.vs.mapM Z4=some us->(∀ a∈as,a.spot=none/\∃ c ty,w.heap[a.block]? = some (.cells c ty (0,0))/\a.off<c.size) ->
  CallsDIn (Fr none) m P di.g (as.map fun a=>Value.pointer (some a)).toArray (.panicking [pv di.X]) w fun e u w'=>(∃ v,e=.returned v)/\u=.panicking [{ pv di.X with recovered:=true }]/\∃ o,w'=q52 as us (w.alloc o)
theorem j5k {s:SV} {v:Value} (h:Z4 s=some v) {κ:A2} {h':Heap} {w:World}:RepSV L κ h' w s v/\v.oneCell'=true:=by
 unfold Z4 at h
 split at h
 ·cases h;exact⟨rfl,rfl⟩
 ·cases h;exact⟨G7 _ _,rfl⟩
 ·cases h;exact⟨M2 _,rfl⟩
 ·cases h
theorem y33 {w:World} {b off:Nat} {c:Array Value} {ty:TypeId} {fr:Nat×Nat} {v:Value} (h:w.heap[b]? = some (.cells c ty fr)):w.setCell ⟨b,off,none⟩ v=w.setRow b (c.setIfInBounds off v):=by
 have h2:w.setRow b (c.setIfInBounds off v)={ w with heap:=(w.setRow b (c.setIfInBounds off v)).heap }:=rfl
 rw[h2]
 unfold World.setCell
 congr 1
 apply Array.ext_getElem?
 intro i
 by_cases hi:i=b
 ·subst hi
  rw[setRow_heap w i _ _ ty fr h]
  simp[Array.getElem?_modify,h]
 ·rw[setRow_other w b i _ hi]
  simp[Array.getElem?_modify,Ne.symm hi]
theorem y3k {κ:A2} {h:Heap} {w:World} (ok:HeapOK L w0 κ h w) {id b off:Nat} {c:Nat×Nat} {l:List SV} {s:SV} {v:Value} (hid:h id=.cells l) (hk:κ id=some (b,c)) (hoff:off<l.length) (hv:Z4 s=some v) :
  HeapOK L w0 κ (upd h id (.cells (l.set off s))) (w.setCell ⟨b,off,none⟩ v)/\Ext L κ h w κ (upd h id (.cells (l.set off s))) (w.setCell ⟨b,off,none⟩ v):=by
 have hob:=ok.obj id
 rw[hid]at hob
 obtain⟨b',c',cs,ty,hk',hheap,hcs⟩:=hob
 rw[hk]at hk';simp at hk';obtain⟨rfl,rfl⟩:=hk'
 rw[y33 hheap]
 have hlive:(h id).live=true:=by rw[hid];rfl
 have hown:=ok.own id b c hlive hk
 have hlike:(h id).like (.cells (l.set off s)):=by rw[hid];trivial
 have hsize:(w.setRow b (cs.toArray.setIfInBounds off v)).heap.size=w.heap.size:=by simp
 have hoth:∀ b',b'≠b->(w.setRow b (cs.toArray.setIfInBounds off v)).heap[b']? = w.heap[b']?:=fun b' hne=>setRow_other w b b' _ hne
 have hx':=N5 (L:=L) (κ:=κ) (h:=h) hk hlike (.inl (.inl ⟨_,_,_,hheap⟩)) hsize hoth
 refine⟨P3 ok hk hlike hsize hoth (Y9 _ ok.below hown.1) ⟨b,c,cs.set off v,ty,hk,by rw[setRow_heap w b _ _ ty (0,0) hheap];simp,?_⟩,hx'⟩
 refine⟨by simp[hcs.1],fun i s' c' hi hc=>?_⟩
 rw[List.getElem?_set]at hi hc
 by_cases hio:off=i
 ·subst hio
  rw[if_pos rfl,if_pos (by omega)]at hi
  rw[if_pos rfl,if_pos (by rw[hcs.1];omega)]at hc
  cases hi;cases hc
  exact j5k hv
 ·rw[if_neg hio]at hi hc
  obtain⟨h1,h2⟩:=hcs.2 i s' c' hi hc
  exact⟨h1.ext hx',h2⟩
theorem j2b {lo:Nat->Bool} {κ:A2}:∀ (caps:List (Nat×Nat)) (vs:List SV) (as:List Addr) (us:List Value) (h h2:Heap) (w:World),K0 lo caps vs h=some h2->HeapOK L w0 κ h w->vs.mapM Z4=some us->as.length=caps.length ->
  (∀ (i:Nat) (p:Nat×Nat) (a:Addr),caps[i]? = some p->as[i]? = some a->∃ b c,κ p.1=some (b,c)/\a=⟨b,p.2,none⟩)->HeapOK L w0 κ h2 (q52 as us w)/\Ext L κ h w κ h2 (q52 as us w)
 | [],[],[],us,h,h2,w,he,ok,hm,hl,hp=>by
  simp only[K0,Option.some.injEq]at he
  subst he
  have hus:us=[]:=by simpa using hm.symm
  subst hus
  exact⟨ok,Ext.refl _ _ _ _⟩
 | (id,off)::r,s::vs,a::as,us,h,h2,w,he,ok,hm,hl,hp=>by
  simp only[K0]at he
  split at he
  ·rename_i l v hid hv
   obtain⟨hlt,he⟩:=A7 he
   rw[Bool.and_eq_true]at hlt
   have hlt:off<l.length:=Nat.le_of_ble_eq_true hlt.1
   rw[List.mapM_cons,hv]at hm
   cases hr:vs.mapM Z4 with
   | none=>rw[hr]at hm;cases hm
   | some us' =>
    rw[hr]at hm
    have hus:us=v::us':=by simpa using hm.symm
    subst hus
    obtain⟨b,c,hk,ha⟩:=hp 0 (id,off) a rfl rfl
    subst ha
    obtain⟨ok1,e1⟩:=y3k ok hid hk hlt hv
    obtain⟨ok2,e2⟩:=j2b r vs as us' _ h2 _ he ok1 hr (by simpa using hl) fun i p a hpi hai=>hp (i+1) p a hpi hai
    exact⟨ok2,e1.trans e2⟩
  ·cases he
 | [],_::_,_,_,_,_,_,he,_,_,_,_=>by simp[K0]at he
 | _::_,[],_,_,_,_,_,he,_,_,_,_=>by simp[K0]at he
 | [],[],_::_,_,_,_,_,_,_,_,hl,_=>by simp at hl
 | _::_,_::_,[],_,_,_,_,_,_,_,hl,_=>by simp at hl
theorem j0f {g:FuncId} {fn:Func} (hf:P.funcs[g]? = some fn) (hb:fn.body.isSome=true) (hn:(fn.name== "runtime.NumGoroutine")=false) (cap:Array Value) (w:World) :
  (invoke (.fn (.func g) cap) #[]).run P w=.ok (.enter g cap) w:=by
 simp[invoke,callFunc,hf,Option.isNone_iff_eq_none]
 cases hbb:fn.body with
 | none=>rw[hbb]at hb;cases hb
 | some c=>simpa using hn
theorem j26 {lo:Nat->Bool}:∀ (caps:List (Nat×Nat)) (vs:List SV) (h h2:Heap),K0 lo caps vs h=some h2->∀ p∈caps,∃ l,h p.1=.cells l/\p.2<l.length
 | [],_,_,_,_,p,hp=>by cases hp
 | (id,off)::r,[],_,_,he,_,_=>by simp[K0]at he
 | (id,off)::r,s::vs,h,h2,he,p,hp=>by
  simp only[K0]at he
  split at he
  ·rename_i l v hid hv
   obtain⟨hlt,he⟩:=A7 he
   rw[Bool.and_eq_true]at hlt
   have hlt:off<l.length:=Nat.le_of_ble_eq_true hlt.1
   rcases List.mem_cons.1 hp with rfl | hp
   ·exact⟨l,hid,hlt⟩
   ·obtain⟨l',h3,h4⟩:=j26 r vs _ h2 he p hp
    by_cases hpi:p.1=id
    ·rw[hpi,A1]at h3
     cases h3
     exact⟨l,by rw[hpi];exact hid,by simpa using h4⟩
    ·rw[A0 _ _ hpi]at h3
     exact⟨l',h3,h4⟩
  ·cases he
theorem j27 {lo:Nat->Bool}:∀ (caps:List (Nat×Nat)) (vs:List SV) (h h2:Heap),K0 lo caps vs h=some h2->caps.length=vs.length/\∃ us,vs.mapM Z4=some us
 | [],[],_,_,_=>⟨rfl,[],rfl⟩
 | [],_::_,_,_,he=>by simp[K0]at he
 | _::_,[],_,_,he=>by simp[K0]at he
 | (id,off)::r,s::vs,h,h2,he=>by
  simp only[K0]at he
  split at he
  ·rename_i l v hid hv
   obtain⟨_,he⟩:=A7 he
   obtain⟨h3,us,h4⟩:=j27 r vs _ h2 he
   exact⟨by simp[h3],v::us,by rw[List.mapM_cons,hv,h4];rfl⟩
  ·cases he
theorem j28 {lo:Nat->Bool}:∀ (caps:List (Nat×Nat)) (vs:List SV) (h h2:Heap),K0 lo caps vs h=some h2->∀ id,lo id=true->h2 id=h id
 | [],[],_,_,he,_,_=>by simp only[K0,Option.some.injEq]at he;rw[he]
 | [],_::_,_,_,he,_,_=>by simp[K0]at he
 | _::_,[],_,_,he,_,_=>by simp[K0]at he
 | (id,off)::r,s::vs,h,h2,he,j,hj=>by
  simp only[K0]at he
  split at he
  ·rename_i l v hid hv
   obtain⟨hc,he⟩:=A7 he
   rw[Bool.and_eq_true]at hc
   rw[j28 r vs _ h2 he j hj,A0 _ _ (fun e=>by rw[e]at hj;rw[hj]at hc;exact absurd hc.2 (by simp))]
  ·cases he
theorem EndOK.mk_ret {κ:A2} {h:Heap} {w:World} {h':Heap} {av:AV} {v:Value} {κ':A2} {w':World} (h1:HeapOK L w0 κ' h' w') (h2:RepAV L κ' h' w' av v) (h3:Ext L κ h w κ' h' w'):EndOK L w0 κ h w h' av (.returned v) w':=.inl ⟨v,κ',rfl,h1,h2,h3⟩
theorem q0q {κ κ':A2} {h h':Heap} {w w1 w':World} (ext:Ext L κ h w κ' h' w1) (szE:w'.heap.size=w1.heap.size) (loE:∀ b,b<w.heap.size->w'.heap[b]? = w1.heap[b]?):Ext L κ h w κ' h' w' :=
 ⟨ext.place,ext.kid,ext.dead,ext.cells,ext.arr,ext.arrD,ext.ice,ext.lrec,ext.maps,ext.iter,fun b hb=>by
  obtain⟨f1,f2⟩:=ext.still b hb
  exact⟨⟨by rw[szE];exact f1.1,f1.2⟩,(loE b hb.1).trans f2⟩,by rw[szE];exact ext.size,fun b r hr=>by
  obtain⟨r',hr'⟩:=ext.loops b r hr
  exact⟨r',(loE b (Array.getElem?_eq_some_iff.1 hr).1).trans hr'⟩,fun b hr=>(loE b (Array.getElem?_eq_some_iff.1 hr).1).trans (ext.defs b hr)⟩
theorem q3j {R:Type} {C:Ctx} (hti:∀ t ti,C.TI t=some ti->ti.OK P t) {fn:Func} {st:St} {K:AV->Heap->Option R} {z:R} (he:T7 C fn st K=some z) :
  ∃ av,K av st.h=some z/\∀ (κ0:A2) (h0:Heap) (w:World) (κ:A2) (a:Act) (w':World),(∀ t,RepAV L κ st.h w' (st.ρ t) (a.tmps.getD t undef))->HeapOK L w0 κ st.h w'->Ext L κ0 h0 w κ st.h w' ->
   ∃ v,(results fn a.tmps).run P w'=.ok v w'/\EndOK L w0 κ0 h0 w st.h av (.returned v) w':=by
 unfold T7 at he
 obtain⟨avs,h1,h2⟩:=q4w (P:=P) (L:=L) (w0:=w0) hti fn.results.toList _ z he
 obtain⟨hnt,h1⟩:=A7 h1
 refine⟨_,h1,fun κ0 h0 w κ a w' henv ok ext=>?_⟩
 obtain⟨vals',g1,g2,g3,g4⟩:=h2 κ a w' henv ok
 exact⟨_,z35 g1,.mk_ret ok (y0i g2 hnt g4) ext⟩
theorem z5p {R:Type} {lo:Nat->Bool} {X:TypeId} {h':Heap} {K:AV->Heap->Option R} {z:R} (he:q65 lo X h' K=some z) :
  K (.one (.pan X)) (upd h' B6 (I9 X))=some z/\lo B6=false/\∀ (κ0:A2) (h0:Heap) (w:World) (κ:A2) (w':World),HeapOK L w0 κ h' w'->Ext L κ0 h0 w κ h' w' ->
   EndOK L w0 κ0 h0 w (upd h' B6 (I9 X)) (.one (.pan X)) (.panicked [pv X]) w':=by
 unfold q65 at he
 split at he
 ·rename_i hfr
  obtain⟨hlb,hk⟩:=A7 he
  have hup:upd (upd h' B6 (I9 X)) B6 .fresh=h':=by
   funext j
   by_cases hj:j=B6
   ·subst hj;rw[A1];exact hfr.symm
   ·rw[A0 _ _ hj,A0 _ _ hj]
  exact⟨hk,by simpa using hlb,fun κ0 h0 w κ w' ok ext=>.inr ⟨X,κ,rfl,rfl,by rw[hup];exact ok,by rw[hup];exact ext⟩⟩
 ·cases he
theorem j5o {a:Code} {ops:Array Oper} {mk df:Oper} {d:Nat} (h:q9q a=some (ops,mk,df,d)):∃ i args Ts,a=.region i ops false/\ops.toList=[mk,df]/\mk.dst=some d/\df.op=.defer { callee:=.value (.tmp d),args:=args,argTypes:=Ts }/\args=#[]/\df.guard=none/\df.dst=none:=by
 unfold q9q at h
 split at h
 ·rename_i i ops'
  split at h
  ·rename_i mk' df' hl
   split at h
   ·rename_i d' x args Ts h1 h2 h3 h4
    obtain⟨hc,h⟩:=A7 h
    rw[Bool.and_eq_true]at hc
    have hx:=Nat.eq_of_beq_eq_true hc.1
    have ha:args=#[]:=by simpa using hc.2
    subst hx
    simp only[Option.some.injEq,Prod.mk.injEq]at h
    obtain⟨e1,e2,e3,e4⟩:=h
    subst e1;subst e2;subst e3;subst e4
    exact⟨i,args,Ts,rfl,hl,h1,h2,ha,h3,h4⟩
   ·cases h
  ·cases h
 ·cases h
theorem j63 {R:Type} {C:Ctx} (hC:CtxOK P L w0 C) (hmix:P.follows .mixedOrders=true) {ib:Nat} {fn:Func} {di:DefI} (hdi:DefF P di) {K:AV->Heap->Option R} {z:R}:∀ (c:Code) (an:Ann) (st:St),q1v C ib fn di K c an st=some z ->
  ∃ av h',K av h'=some z/\(∀ id,st.lo id=true->h' id=st.h id)/\∀ (κ0:A2) (h0:Heap) (w:World),w0.heap.size<=w.heap.size->∀ (m:Nat) (κ:A2) (a:Act) (w1:World),Sim P L w0 ⟨w.heap.size,[]⟩ none κ st a w1->Ext L κ0 h0 w κ st.h w1 ->
   c.wpIn (Fr none) m P (bodyPostM (Fr none) m P fn (EndOK L w0 κ0 h0 w h' av)) a w1:=by
 intro c
 induction c with
 | seq a b iha ihb =>
  intro an st he
  cases an with
  | seq p q =>
   simp only[q1v]at he
   split at he
   ·rename_i ops mk df d hd
    obtain⟨i,args,Ts,rfl,hops,hmk,hdf,rfl,hgd,hdst⟩:=j5o hd
    obtain⟨qs,st1,pj,hst,hpi,hk⟩:=q6b hC [mk] st [] _ z he
    obtain⟨hpj,hk1⟩:=A7 hk
    clear hk
    obtain rfl:pj=none:=by simpa using hpj
    split at hk1
    rotate_left
    ·cases hk1
    rename_i f caps hfc
    obtain⟨hcf,hk⟩:=A7 hk1
    rw[Bool.and_eq_true]at hcf
    have hf:=Nat.eq_of_beq_eq_true hcf.1
    subst hf
    obtain⟨x,st2,hk2,sl2,hrun⟩:=M6 hC hmix ib b q R _ _ z hk
    cases hst with
    | @cons _ _ _ want qq qs' _ hstep htail =>
    cases htail
    have hlo1:∀ id,st.lo id=true->(st.after mk qq).h id=st.h id:=fun id hid=>z1o hstep.ups (fun H hH id hid=>hstep.full H hH id (.inl hid)) id hid
    have hsz:ops.size=2:=by rw[<-Array.length_toList,hops];rfl
    have h0:ops[0]? = some mk:=by rw[<-Array.getElem?_toList,hops];rfl
    have h1:ops[1]? = some df:=by rw[<-Array.getElem?_toList,hops];rfl
    have core:∀ (κ0:A2) (hh0:Heap) (w:World),w0.heap.size<=w.heap.size->∀ (m:Nat) (κ:A2) (a:Act) (w1:World),Sim P L w0 ⟨w.heap.size,[]⟩ none κ st a w1->Ext L κ0 hh0 w κ st.h w1->∀ (Rr:Ending->World->Prop),
      (∀ (κ2:A2) (a2:Act) (wB:World) (as:List Addr) (ds:List Deferred),(∀ t,RepAV L κ2 st2.h wB (st2.ρ t) (a2.tmps.getD t undef))->HeapOK L w0 κ2 st2.h wB->Ext L κ0 hh0 w κ2 st2.h wB->MarksOK ⟨w.heap.size,[]⟩ ds wB ->
       as.length=caps.length->(∀ (i:Nat) (p:Nat×Nat) (a:Addr),caps[i]? = some p->as[i]? = some a->∃ b c,κ2 p.1=some (b,c)/\a=⟨b,p.2,none⟩) ->
       match x with
       | .ex _=>True
       | .pan Y=>LeavesInM (Fr none) m P fn a2.tmps Rr ({ target:=.fn (.func di.g) (as.map fun a=>Value.pointer (some a)).toArray,args:=#[] }::ds) (.panicking [pv Y]) wB
       | _=>LeavesInM (Fr none) m P fn a2.tmps Rr ({ target:=.fn (.func di.g) (as.map fun a=>Value.pointer (some a)).toArray,args:=#[] }::ds) .returning wB) ->
      (Code.seq (.region i ops false) b).wpIn (Fr none) m P (bodyPostM (Fr none) m P fn Rr) a w1:=by
     intro κ0 hh0 w hw m κ a w1 sim ext Rr hend
     refine wpIn_seq (wpIn_region ?_)
     rw[hsz,show List.range 2=[0,1]from rfl,wpOpsIn_cons]
     refine z3n h0 hstep rfl rfl rfl (fun hw=>hstep.run hw _ _ (z4b _ _ _ _)) (fun _ _=>rfl) (fun H hH id hid=>hstep.full H hH id (.inl hid)) sim (fun κ1 a1 wD sim1 e1 l1=>?_) fun hw T hT=>absurd hT (hpi _ List.mem_cons_self T)
     have hv:=sim1.env d
     rw[hfc]at hv
     obtain⟨cs,hv1,hv2,hv3⟩:=hv
     have hcs:∃ as:List Addr,as.length=caps.length/\cs=as.map (fun a=>Value.pointer (some a))/\∀ (i:Nat) (p:Nat×Nat) (a:Addr),caps[i]? = some p->as[i]? = some a->((st.after mk qq).h p.1).Held/\∃ b c,κ1 p.1=some (b,c)/\a=⟨b,p.2,none⟩:=by
      refine⟨cs.map (fun v=>match v with | .pointer (some a)=>a | _=>default),by simp[hv2],?_,fun i p a hp ha=>?_⟩
      ·apply List.ext_getElem?
       intro i
       by_cases hi:i<caps.length
       ·obtain⟨-,b',c',-,hc⟩:=hv3 i _ (List.getElem?_eq_getElem hi)
        simp[List.getElem?_map,hc]
       ·rw[List.getElem?_eq_none (by omega),List.getElem?_eq_none (by simp;omega)]
      ·obtain⟨g1,b',c',g2,hc⟩:=hv3 i p hp
       rw[List.getElem?_map,hc]at ha
       exact⟨g1,b',c',g2,by simpa using ha.symm⟩
     obtain⟨as,ha1,rfl,ha3⟩:=hcs
     rw[wpOpsIn_cons]
     unfold wpOpIn
     rw[h1]
     have hwant:Region.wanted df (yielded ops a1.tmps)=true:=by unfold Region.wanted;rw[hgd]
     simp only[hwant,if_true]
     refine⟨fun _ _=>trivial,?_⟩
     have hrunD:(df.semAt (Fr none).round a1.eval).run P wD=.ok (.defer { target:=.fn (.func di.g) (as.map fun a=>Value.pointer (some a)).toArray,args:=#[] }) wD:=by
      show(execOp a1.eval df).run P wD=_
      unfold execOp
      have he:a1.eval (.tmp d)=.func (.func di.g) #[] (as.map fun a=>Value.pointer (some a)).toArray:=hv1
      simp[hdf,resolve,Deferred.ofValue,he]
     rw[hrunD,Oper.uponIn_defer,hdst]
     show b.wpIn (Fr none) m P (bodyPostM (Fr none) m P fn Rr) ({ a1 with defers:=_::a1.defers }:Act) wD
     refine hrun ⟨wD.heap.size,{ target:=.fn (.func di.g) (as.map fun a=>Value.pointer (some a)).toArray,args:=#[] }::a1.defers⟩ none m κ1 _ wD _ ⟨sim1.size,sim1.env,sim1.heap,MarksOK.nil (Nat.le_refl _),fun l hl=>by cases hl⟩ fun κ2 a2 wA sim2 e2 l2=>?_
     have hsz0:w.heap.size<=wD.heap.size:=(ext.trans e1).size
     have lv:∀ u:FrameMode,u≠.run->∃ wB,HeapOK L w0 κ2 st2.h wB/\(∀ t,RepAV L κ2 st2.h wB (st2.ρ t) (a2.tmps.getD t undef))/\Ext L κ0 hh0 w κ2 st2.h wB/\MarksOK ⟨w.heap.size,[]⟩ a1.defers wB /\
       (LeavesInM (Fr none) m P fn a2.tmps Rr ({ target:=.fn (.func di.g) (as.map fun a=>Value.pointer (some a)).toArray,args:=#[] }::a1.defers) u wB->LeavesInM (Fr none) m P fn a2.tmps Rr a2.defers u wA):=fun u hu=>by
      obtain⟨wB,okE,avE,szE,loE,leave⟩:=X3 (P:=P) (fn:=fn) (tmps:=a2.tmps) (m:=m) (u:=u) (R:=Rr) (B:=⟨wD.heap.size,{ target:=.fn (.func di.g) (as.map fun a=>Value.pointer (some a)).toArray,args:=#[] }::a1.defers⟩) (Nat.le_trans hw hsz0) hu a2.defers wA sim2.defs sim2.heap
      refine⟨wB,okE,fun t=>avE _ _ (sim2.env t),q0q ((ext.trans e1).trans e2) szE (fun b hb=>loE b (Nat.lt_of_lt_of_le hb hsz0)),sim1.defs.keep (by rw[szE];exact e2.size) (fun b hb=>(loE b (Array.getElem?_eq_some_iff.1 hb).1).trans (e2.defs b hb)),leave⟩
     have hcap:∀ (i:Nat) (p:Nat×Nat) (a:Addr),caps[i]? = some p->as[i]? = some a->∃ b c,κ2 p.1=some (b,c)/\a=⟨b,p.2,none⟩:=fun i p a hp ha=>by
      obtain⟨g1,b,c,g2,g3⟩:=ha3 i p a hp ha
      exact⟨b,c,(e2.place p.1 g1).trans g2,g3⟩
     cases x with
     | nrm =>
      obtain⟨wB,g1,g2,g3,g4,g5⟩:=lv .returning (by intro h;cases h)
      exact g5 (hend κ2 a2 wB as a1.defers g2 g1 g3 g4 ha1 hcap)
     | ret =>
      obtain⟨wB,g1,g2,g3,g4,g5⟩:=lv .returning (by intro h;cases h)
      exact g5 (hend κ2 a2 wB as a1.defers g2 g1 g3 g4 ha1 hcap)
     | pan Y =>
      obtain⟨wB,g1,g2,g3,g4,g5⟩:=lv (.panicking [pv Y]) (by intro h;cases h)
      exact g5 (hend κ2 a2 wB as a1.defers g2 g1 g3 g4 ha1 hcap)
     | ex j=>cases hk2
    have hlo2:∀ id,st.lo id=true->st2.h id=st.h id:=fun id hid=>(sl2.obj id hid).trans (hlo1 id hid)
    have retd:∀ {av:AV},(∀ (κ0:A2) (h0:Heap) (w:World) (κ:A2) (a:Act) (w':World),(∀ t,RepAV L κ st2.h w' (st2.ρ t) (a.tmps.getD t undef))->HeapOK L w0 κ st2.h w'->Ext L κ0 h0 w κ st2.h w' ->
       ∃ v,(results fn a.tmps).run P w'=.ok v w'/\EndOK L w0 κ0 h0 w st2.h av (.returned v) w')->caps.length=di.vs.length ->
      ∀ (κ0:A2) (hh0:Heap) (w:World),w0.heap.size<=w.heap.size->∀ (m:Nat) (κ2:A2) (a2:Act) (wB:World) (as:List Addr) (ds:List Deferred),(∀ t,RepAV L κ2 st2.h wB (st2.ρ t) (a2.tmps.getD t undef))->HeapOK L w0 κ2 st2.h wB->Ext L κ0 hh0 w κ2 st2.h wB->MarksOK ⟨w.heap.size,[]⟩ ds wB->as.length=caps.length ->
      LeavesInM (Fr none) m P fn a2.tmps (EndOK L w0 κ0 hh0 w st2.h av) ({ target:=.fn (.func di.g) (as.map fun a=>Value.pointer (some a)).toArray,args:=#[] }::ds) .returning wB:=fun {av} g2 hlen κ0 hh0 w hw m κ2 a2 wB as ds henv ok ext2 hm hal=>by
     obtain⟨fn',f1,f2,f3⟩:=hdi.fn
     refine⟨(by intro h;cases h),.inr ⟨fun h=>by simp[Fr]at h,_,_,di.g,(as.map fun a=>Value.pointer (some a)).toArray,rfl,?_,fun _ _=>trivial,CallsDIn.mono (hdi.ret as wB (m-1) (by rw[hal,hlen])) fun e u' w' ⟨⟨v,hv⟩,hu,hw'⟩=>?_⟩⟩
     ·exact j0f f1 f2 f3 _ wB
     subst hv;subst hu;subst hw'
     obtain⟨wD,okE,avE,szE,loE,leave⟩:=X3 (P:=P) (fn:=fn) (tmps:=a2.tmps) (m:=m) (u:=.returning) (R:=EndOK L w0 κ0 hh0 w st2.h av) (B:=⟨w.heap.size,[]⟩) hw (by intro h;cases h) ds w' hm ok
     exact leave (g2 κ0 hh0 w κ2 a2 wD (fun t=>avE _ _ (henv t)) okE (q0q ext2 szE loE))
    have hclen:=Nat.eq_of_beq_eq_true hcf.2
    cases x with
    | ex j=>cases hk2
    | nrm =>
     obtain⟨av,g1,g2⟩:=q3j (P:=P) (L:=L) (w0:=w0) hC.ti (show T7 C fn st2 K=some z from hk2)
     exact⟨av,_,g1,hlo2,fun κ0 hh0 w hw m κ a w1 sim ext=>core κ0 hh0 w hw m κ a w1 sim ext _ fun κ2 a2 wB as ds henv ok ext2 hm hal hcap=>retd g2 hclen κ0 hh0 w hw m κ2 a2 wB as ds henv ok ext2 hm hal⟩
    | ret =>
     obtain⟨av,g1,g2⟩:=q3j (P:=P) (L:=L) (w0:=w0) hC.ti (show T7 C fn st2 K=some z from hk2)
     exact⟨av,_,g1,hlo2,fun κ0 hh0 w hw m κ a w1 sim ext=>core κ0 hh0 w hw m κ a w1 sim ext _ fun κ2 a2 wB as ds henv ok ext2 hm hal hcap=>retd g2 hclen κ0 hh0 w hw m κ2 a2 wB as ds henv ok ext2 hm hal⟩
    | pan Y =>
     have hk3:cond (Nat.beq Y di.X) (match K0 st2.lo caps di.vs st2.h with
      | some h=>T7 C fn { st2 with h:=h } K
      | none=>none) none=some z:=hk2
     obtain⟨hY,hk4⟩:=A7 hk3
     clear hk3
     have hY:=Nat.eq_of_beq_eq_true hY
     subst hY
     split at hk4
     rotate_left
     ·cases hk4
     rename_i h2 hst2
     obtain⟨av,g1,g2⟩:=q3j (P:=P) (L:=L) (w0:=w0) hC.ti hk4
     obtain⟨-,us,hus⟩:=j27 _ _ _ _ hst2
     refine⟨av,h2,g1,fun id hid=>(j28 _ _ _ _ hst2 id (by rw[sl2.lo];exact hid)).trans (hlo2 id hid),fun κ0 hh0 w hw m κ a w1 sim ext=>core κ0 hh0 w hw m κ a w1 sim ext _ fun κ2 a2 wB as ds henv ok ext2 hm hal hcap=>?_⟩
     obtain⟨fn',f1,f2,f3⟩:=hdi.fn
     refine⟨(by intro h;cases h),.inr ⟨fun h=>by simp[Fr]at h,_,_,di.g,(as.map fun a=>Value.pointer (some a)).toArray,rfl,j0f f1 f2 f3 _ wB,fun _ _=>trivial,CallsDIn.mono (hdi.pan as wB (m-1) us (by rw[hal,hclen]) hus fun a ha=>?_) fun e u' w' ⟨⟨v,hv⟩,hu,o,hw'⟩=>?_⟩⟩
     ·obtain⟨i,hi⟩:=List.getElem?_of_mem ha
      have hil:i<caps.length:=by rw[<-hal];exact(List.getElem?_eq_some_iff.1 hi).1
      obtain⟨b',c',k1,k2⟩:=hcap i _ a (List.getElem?_eq_getElem hil) hi
      obtain⟨l,l1,l2⟩:=j26 _ _ _ _ hst2 _ (List.getElem_mem hil)
      have hob:=ok.obj (caps[i]).1
      rw[l1]at hob
      obtain⟨b2,c2,cs,ty,k3,k4,k5⟩:=hob
      rw[k1]at k3
      cases k3
      subst k2
      exact⟨rfl,_,ty,k4,by rw[List.size_toArray,k5.1];exact l2⟩
     ·subst hv;subst hu;subst hw'
      obtain⟨ok3,e3⟩:=j2b caps di.vs as us _ _ _ hst2 (z79 ok o) hus hal hcap
      have e4:Ext L κ2 st2.h wB κ2 h2 (q52 as us (wB.alloc o)):=(z1h o).trans e3
      obtain⟨wD,okE,avE,szE,loE,leave⟩:=X3 (P:=P) (fn:=fn) (tmps:=a2.tmps) (m:=m) (u:=.returning) (R:=EndOK L w0 κ0 hh0 w h2 av) (B:=⟨w.heap.size,[]⟩) hw (by intro h;cases h) ds _ (hm.keep e4.size e4.defs) ok3
      exact leave (g2 κ0 hh0 w κ2 a2 wD (fun t=>avE _ _ ((henv t).ext e4)) okE (q0q (ext2.trans e4) szE loE))
   ·obtain⟨x,st1,hk,sl,hrun⟩:=M6 hC hmix ib a p R st _ z he
    cases x with
    | nrm =>
     obtain⟨av,h',g1,g2,g3⟩:=ihb q st1 hk
     refine⟨av,h',g1,fun id hid=>(g2 id (by rw[sl.lo];exact hid)).trans (sl.obj id hid),fun κ0 h0 w hw m κ a1 w1 sim ext=>wpIn_seq (hrun _ none m κ a1 w1 _ sim fun κ' a' w' s e l=>?_)⟩
     exact g3 κ0 h0 w hw m κ' a' w' s (ext.trans e)
    | ret =>
     obtain⟨av,g1,g2⟩:=q3j (P:=P) (L:=L) (w0:=w0) hC.ti hk
     refine⟨av,_,g1,sl.obj,fun κ0 h0 w hw m κ a1 w1 sim ext=>wpIn_seq (hrun _ none m κ a1 w1 _ sim fun κ' a' w' s e l=>?_)⟩
     obtain⟨w2,okE,avE,szE,loE,leave⟩:=X3 (P:=P) (fn:=fn) (tmps:=a'.tmps) (m:=m) (u:=.returning) (R:=EndOK L w0 κ0 h0 w st1.h av) (B:=⟨w.heap.size,[]⟩) hw (by intro h;cases h) a'.defers w' s.defs s.heap
     exact leave (g2 κ0 h0 w κ' a' w2 (fun t=>avE _ _ (s.env t)) okE (q0q (ext.trans e) szE loE))
    | pan X =>
     obtain⟨g1,hlb,g2⟩:=z5p (L:=L) (w0:=w0) hk
     refine⟨_,_,g1,fun id hid=>?_,fun κ0 h0 w hw m κ a1 w1 sim ext=>wpIn_seq (hrun _ none m κ a1 w1 _ sim fun κ' a' w' s e l=>?_)⟩
     ·rw[A0 _ _ (fun h=>by rw[h,hlb]at hid;cases hid)];exact sl.obj id hid
     obtain⟨w2,okE,avE,szE,loE,leave⟩:=X3 (P:=P) (fn:=fn) (tmps:=a'.tmps) (m:=m) (u:=.panicking [pv X]) (R:=EndOK L w0 κ0 h0 w (upd st1.h B6 (I9 X)) (.one (.pan X))) (B:=⟨w.heap.size,[]⟩) hw (by intro h;cases h) a'.defers w' s.defs s.heap
     exact leave (g2 κ0 h0 w κ' w2 okE (q0q (ext.trans e) szE loE))
    | ex i=>cases hk
  | _=>simp only[q1v]at he;cases he
 | _=>intro an st he;simp only[q1v]at he;cases he
theorem z57 {T:Tables} (hti:∀ t ti,T.TI t=some ti->ti.OK P t) (hsp:∀ f s,T.sp f=some s->FunOK' P T.gl f s) (hsr:∀ f,T.srt f=true->Sort1 P f) (hsn:∀ f k,T.srn f=some k->W2 P T.gl f k) (hif:∀ t,T.ifc t=true->∃ ms,P.underlying t=some (.interface ms)) (hme:∀ t n f,T.meth t n=some f->q1h P t n f)
  (hov:∀ f g,T.ov f=some g->∀ (L:Nat->Prop) (w0:World),GlobOK T.gl w0->j3f P L w0 f g) (hdf:∀ f di,T.dfr f=some di->DefF P di)
  (hinl:∀ f,T.inl f=true->∃ fn,P.funcs[f]? = some fn/\fn.body.isSome=true/\(fn.name== "runtime.NumGoroutine")=false)
  (hbd:∀ f ib fn an,T.bd f ib=some (fn,an)->P.funcs[f]? = some fn/\fn.body.isSome=true/\(fn.name== "runtime.NumGoroutine")=false) (hmix:P.follows .mixedOrders=true) :
  ∀ (n:Nat) (L:Nat->Prop) (w0:World),GlobOK T.gl w0->ICallOK P L w0 (I5 T n).ic T.inl/\q94 P L w0 (I5 T n).yc:=by
 intro n
 induction n with
 | zero=>exact fun L w0 _=>⟨⟨(fun f args h lo ib R K z _ he=>by cases he),hinl⟩,fun id args h lo R K z he=>by cases he⟩
 | succ n ih =>
  refine fun L w0 hG=>⟨⟨fun f args h lo ib R K z hi he=>?_,hinl⟩,fun id args h lo R K z he=>?_⟩
  ·have hC:CtxOK P L w0 (T.ctx (I5 T n).ic (I5 T n).yc):=⟨hti,hsp,hG,(ih L w0 hG).1,(ih L w0 hG).2,hsr,hsn,hif,hme⟩
   simp only[I5]at he
   split at he
   ·rename_i g hg
    obtain⟨av,h',g1,g2,g3⟩:=hov f g hg L w0 hG args h lo ib R K z he
    exact⟨av,h',g1,g2,fun κ w vals hl hr ok m=>CallsIn.mono (g3 κ w vals hl hr ok m) fun e w' he=>.inl he⟩
   ·split at he
    ·cases he
    rename_i fn an hbf
    split at he
    ·cases he
    ·rename_i c hc
     obtain⟨hn,he⟩:=A7 he
     have hn:=Nat.le_of_ble_eq_true hn
     split at he
     ·rename_i di hdi
      obtain⟨av,h',g1,g2,g3⟩:=j63 hC hmix (hdf f di hdi) c an _ he
      refine⟨av,h',g1,g2,fun κ w vals hl hr ok m=>?_⟩
      refine callsIn_of_wp_marks (hbd f ib fn an hbf).1 hc trivial ?_
      exact g3 κ h w ok.below.size m κ _ w (z23 hl hr ok hn) (Ext.refl _ _ _ _)
     obtain⟨k,st',hk,sl,hrun⟩:=M6 hC hmix ib c an _ _ _ z he
     have main:∀ k':XK,k=k'->(k'=.nrm\/k'=.ret)->T7 (T.ctx (I5 T n).ic (I5 T n).yc) fn st' K=some z ->
       ∃ av h',K av h'=some z/\(∀ id,lo id=true->h' id=h id)/\∀ κ w (vals:List Value),vals.length=args.length->(∀ (i:Nat) (a:AV) (v:Value),args[i]? = some a->vals[i]? = some v->RepAV L κ h w a v)->HeapOK L w0 κ h w ->
        ∀ m,CallsIn (Fr none) m P f vals.toArray w (EndOK L w0 κ h w h' av):=by
      intro k' hkk hk' hres
      obtain⟨av,g1,g2⟩:=q3j (P:=P) (L:=L) (w0:=w0) hC.ti hres
      refine⟨_,_,g1,fun id hid=>sl.obj id hid,fun κ w vals hl hr ok m=>?_⟩
      refine callsIn_of_wp_marks (hbd f ib fn an hbf).1 hc trivial ?_
      refine hrun ⟨w.heap.size,[]⟩ none m κ _ w _ (z23 hl hr ok hn) fun κ' a' w1 sim ext lk=>?_
      obtain⟨w',okE,avE,szE,loE,leave⟩:=X3 (P:=P) (fn:=fn) (tmps:=a'.tmps) (m:=m) (u:=.returning) (R:=EndOK L w0 κ h w st'.h av) (B:=⟨w.heap.size,[]⟩) ok.below.size (by intro h;cases h) a'.defers w1 sim.defs sim.heap
      have hall:=leave (g2 κ h w κ' a' w' (fun t=>avE _ _ (sim.env t)) okE (q0q ext szE loE))
      subst hkk
      cases k with
      | nrm=>exact hall
      | ret=>exact hall
      | ex i=>rcases hk' with h | h<;>cases h
      | pan T=>rcases hk' with h | h<;>cases h
     cases k with
     | nrm=>exact main .nrm rfl (.inl rfl) hk
     | ret=>exact main .ret rfl (.inr rfl) hk
     | ex i=>cases hk
     | pan X =>
      obtain⟨g1,hlb,g2⟩:=z5p (L:=L) (w0:=w0) hk
      refine⟨_,_,g1,fun id hid=>?_,fun κ w vals hl hr ok m=>?_⟩
      ·rw[A0 _ _ (fun h=>by rw[h,hlb]at hid;cases hid)];exact sl.obj id hid
      ·refine callsIn_of_wp_marks (hbd f ib fn an hbf).1 hc trivial ?_
       refine hrun ⟨w.heap.size,[]⟩ none m κ _ w _ (z23 hl hr ok hn) fun κ' a' w1 sim ext lk=>?_
       obtain⟨w',okE,avE,szE,loE,leave⟩:=X3 (P:=P) (fn:=fn) (tmps:=a'.tmps) (m:=m) (u:=.panicking [pv X]) (R:=EndOK L w0 κ h w (upd st'.h B6 (I9 X)) (.one (.pan X))) (B:=⟨w.heap.size,[]⟩) ok.below.size (by intro h;cases h) a'.defers w1 sim.defs sim.heap
       exact leave (g2 κ h w κ' w' okE (q0q ext szE loE))
  ·have hC:CtxOK P L w0 (T.ctx (I5 T n).ic (I5 T n).yc):=⟨hti,hsp,hG,(ih L w0 hG).1,(ih L w0 hG).2,hsr,hsn,hif,hme⟩
   simp only[I5]at he
   split at he
   ·rename_i i an1 an2 hid hrd
    obtain⟨hc,he⟩:=A7 he
    simp only[Bool.and_eq_true,List.all_eq_true,Bool.not_eq_true']at hc
    obtain⟨⟨hal,hps⟩,hlo⟩:=hc
    have hal:=Nat.eq_of_beq_eq_true hal
    obtain⟨k,st1,hk,sl1,hrun1⟩:=M6 hC hmix _ i.assign an1 _ _ _ z he
    split at hk
    ·rename_i i1 hs1
     obtain⟨k2,st2,hk2,sl2,hrun2⟩:=M6 hC hmix _ i.body an2 _ _ _ z hk
     split at hk2
     ·rename_i i2 hs2
      obtain⟨hpl2,hk2⟩:=A7 hk2
      refine⟨_,_,hk2,fun j hj=>?_,fun κ w vals b c hvl hr ok hkb=>?_⟩
      ·have hne:j≠id:=fun e=>by rw[e,hlo]at hj;cases hj
       rw[A0 _ _ hne,sl2.obj j (by show st1.lo j=true;rw[sl1.lo];exact hj)]
       show upd st1.h id _ j=h j
       rw[A0 _ _ hne]
       exact sl1.obj j hj
      ·have ho:=ok.obj id
       rw[hid]at ho
       obtain⟨b',c',rc,p1,p2,p3,p4,p5,p6,p7,p8,p9⟩:=ho
       rw[hkb]at p1;cases p1
       refine⟨rc,p2,by rw[p5,hvl,hal];simp,fun m=>roundIn_of_wpIn trivial ?_⟩
       rw[p6,p7]
       have hz:(rc.params.zip vals.toArray).foldl (fun tmps (t,a)=>tmps.setIfInBounds t a) rc.tmps=(i.ps.zip vals).foldl (fun tmps (t,a)=>tmps.setIfInBounds t a) rc.tmps:=by
        rw[p5,<-Array.foldl_toList];simp
       rw[hz]
       obtain⟨z1,z2⟩:=j01 (L:=L) (κ:=κ) (h:=h) (w:=w) i.ps args vals i.ρ rc.tmps hal (by rw[hvl];exact hal) (fun t ht=>by rw[p8];exact Nat.le_of_ble_eq_true (hps t ht)) hr p9
       refine hrun1 ⟨w.heap.size,[]⟩ (some b) m κ _ w _ ⟨z1.trans p8,z2,ok,MarksOK.nil (Nat.le_refl _),fun l hl=>by cases hl;exact⟨rc,p2⟩⟩ fun κ1 a1 w1 sim1 ext1 _=>?_
       obtain⟨b1,c1,q1,r1,q2,q3,q3',q4⟩:=z9g sim1.heap hs1 .busy
       have hb1:b1=b:=by
        have:=(ext1.place id (by show(h id).Held;rw[hid];simp)).trans hkb
        rw[q1]at this;cases this;rfl
       subst hb1
       refine⟨_,run_beginRound q2 q3,?_⟩
       obtain⟨okB,extB⟩:=q4 { r1 with state:=.busy } rfl q3' rfl rfl rfl rfl
       refine hrun2 ⟨w.heap.size,[]⟩ (some b1) m κ1 a1 _ _ ⟨sim1.size,fun t=>RepAV.ext extB (sim1.env t),okB,sim1.defs.keep extB.size extB.defs,fun l hl=>by
        obtain⟨l',h4⟩:=sim1.rnd l hl
        exact extB.loops l l' h4⟩ fun κ2 a2 w2 sim2 ext2 _=>?_
       obtain⟨b2,c2,t1,r2,t2,t3,-,t4⟩:=z9g sim2.heap hs2 (V2 k2).2
       have hb2:b2=b1:=by
        have:=(ext2.place id (by show(upd st1.h id _ id).Held;rw[A1];simp)).trans q1
        rw[t1]at this;cases this;rfl
       subst hb2
       have fin:∀ jump:Option Code,(if jump.isNone then LoopState.ready else .done)=(V2 k2).2.state->jump=(V2 k2).2.pend->jump.isNone=(V2 k2).1->∃ v w',(Instr.endRound b2 jump).run P w2=.ok v w' /\
         ∃ v' κ',Ending.returned v=.returned v'/\HeapOK L w0 κ' (upd st2.h id (.lrec i2 (V2 k2).2)) w'/\RepAV L κ' (upd st2.h id (.lrec i2 (V2 k2).2)) w' (G3 (V2 k2).1) v'/\Ext L κ h w κ' (upd st2.h id (.lrec i2 (V2 k2).2)) w':=by
        intro jump hj1 hj2 hj3
        refine⟨_,_,run_endRound jump t2,_,κ2,rfl,?_⟩
        obtain⟨okE,extE⟩:=t4 { r2 with state:=if jump.isNone then .ready else .done,pending:=jump } hj1 hj2 rfl rfl rfl rfl
        exact⟨okE,⟨rfl,rfl,by rw[hj3];rfl⟩,ext1.trans (extB.trans (ext2.trans extE))⟩
       cases k2 with
       | nrm=>exact fin none rfl rfl rfl
       | ret=>exact fin (some .ret) rfl rfl rfl
       | ex j=>exact fin (some (.exit j)) rfl rfl rfl
       | pan T=>cases hpl2
     ·cases hk2
    ·cases hk
   ·cases he
end Go.Abs
