/- The engine, part 20: a function keeps the contract that the evaluator finds. -/
import Derived.Test.YteeaadgpkammdaaGreatDoorAbsFn
namespace Go.Abs
open Go Go.RowKit
variable {P:Program} {L:Nat->Prop} {w0:World}
theorem j7t {w:World} {A A':Nat->Prop} (hA:∀ b,A b->A' b) {agg:Bool} {t:Ty} {v:Value} {x:t.den} (h:RepVal w A agg t v x):RepVal w A' agg t v x:=by
 have hm:∀ b,A b->A' b/\w.heap[b]? = w.heap[b]?:=fun b hb=>⟨hA b hb,rfl⟩
 cases agg with
 | false=>exact⟨h.1,h.2.1,RepAt.mono hm t _ _ h.2.2⟩
 | true=>obtain⟨cs,c1,c2,c3,c4⟩:=h;exact⟨cs,c1,c2,c3,RepAt.mono hm t _ _ c4⟩
def v07 (h:Heap):Option Nat->Prop
 | none=>True
 | some id=>∃ e t l,h id=.arr e t l
theorem j7v {w:World} {A:Nat->Prop} {base:Nat} {bo bo':Option (Nat×(Nat×Nat))}:∀ {rs:List RTy} {vs:List Value} {y:I8 rs},P0 rs=0->T3 w A base bo rs vs y->T3 w A base bo' rs vs y
 | [],[],_,_,h=>h
 | [],_::_,_,_,h=>h
 | .val _ _::_,[],_,_,h=>h
 | .own _ _::_,[],_,_,h=>h
 | .val agg t::r,v::vs,y,hc,h=>⟨h.1,j7v (by simpa[P0,RTy.isOwn]using hc) h.2⟩
 | .own e t::r,v::vs,y,hc,h=>by simp[P0,RTy.isOwn]at hc
theorem q8t {R:Type} {h:Heap}:∀ (rs:List RTy) (avs:List AV) (K:I8 rs->List Nat->Option Nat->Option R) (z:R),M8 h rs avs K=some z ->
  ∃ y ids o,K y ids o=some z/\v07 h o/\∀ κ w (vals:List Value),vals.length=avs.length->(∀ (i:Nat) (av:AV) (v:Value),avs[i]? = some av->vals[i]? = some v->RepAV L κ h w av v)->HeapOK L w0 κ h w ->
   ∀ h2,Ext L κ h w κ h2 w->(∀ id∈ids,q41 (h id)->∀ b c,κ id=some (b,c)->A4 L κ h2 w b)->(∀ id,o=some id->h2 id=h id) ->
   ∀ (A:Nat->Prop),(∀ b,A4 L κ h2 w b->A b)->(∀ id e t l,o=some id->h id=.arr e t l->∀ b,A4 L κ h w b->A b)->T3 w A w0.heap.size (o.bind κ) rs vals y
 | [],[],K,z,he=>⟨(),[],none,he,trivial,fun κ w vals hl _ _ _ _ _ _ _ _ _=>by
  cases vals with
  | nil=>trivial
  | cons v vs=>simp at hl⟩
 | [],_::_,K,z,he=>by simp[M8]at he
 | .val _ _::_,[],K,z,he=>by simp[M8]at he
 | .own _ _::_,[],K,z,he=>by simp[M8]at he
 | .val agg t::r,v::vs,K,z,he=>by
  simp only[M8]at he
  split at he
  ·rename_i y0 ids0 h0
   obtain⟨ys,ids,o,h1,h2,h3⟩:=q8t r vs _ z he
   refine⟨_,_,o,h1,h2,fun κ w vals hl hr ok hh x hids ho A hA hA'=>?_⟩
   cases vals with
   | nil=>simp at hl
   | cons u us =>
    have ha:=q44 ok x [(agg,t)] [v] [u] y0 ids0 rfl (fun i av v' g1 g2=>by
     cases i with
     | zero=>simp at g1 g2;subst g1;subst g2;exact hr 0 _ _ rfl rfl
     | succ i=>simp at g1) h0 (fun id hm=>hids id (List.mem_append_left _ hm))
    exact⟨j7t hA ha.1,h3 κ w us (by simpa using hl) (fun i av v' g1 g2=>hr (i+1) av v' (by simpa using g1) (by simpa using g2)) ok hh x (fun id hm=>hids id (List.mem_append_right _ hm)) ho A hA hA'⟩
  ·cases he
 | .own e t::r,v::vs,K,z,he=>by
  cases v with
  | agg l=>simp[M8]at he
  | tup l=>simp[M8]at he
  | one s =>
   cases s with
   | nils =>
    simp only[M8]at he
    obtain⟨ys,ids,o,h1,h2,h3⟩:=q8t r vs _ z he
    cases o with
    | some id=>cases h1
    | none =>
     refine⟨_,ids,none,h1,trivial,fun κ w vals hl hr ok hh x hids ho A hA hA'=>?_⟩
     cases vals with
     | nil=>simp at hl
     | cons u us =>
      have hu:u=.slice none 0 0:=hr 0 _ u rfl rfl
      exact⟨.inl ⟨rfl,rfl,hu⟩,h3 κ w us (by simpa using hl) (fun i av v' g1 g2=>hr (i+1) av v' (by simpa using g1) (by simpa using g2)) ok hh x hids ho A hA hA'⟩
   | own id =>
    simp only[M8]at he
    split at he
    ·rename_i e' t' l hid
     split at he
     ·rename_i l' hl'
      obtain⟨hee,he2⟩:=B1 he
      rw[Bool.and_eq_true]at hee
      have hoc:=Nat.eq_of_beq_eq_true hee.2
      have hee:=Nat.eq_of_beq_eq_true hee.1
      obtain⟨htt,hxx⟩:=H5 hl'
      cases htt
      change l=l' at hxx
      subst hxx;subst hee
      obtain⟨ys,ids,o,h1,h2,h3⟩:=q8t r vs _ z he2
      cases o with
      | some id=>cases h1
      | none =>
       refine⟨_,ids,some id,h1,⟨_,_,_,hid⟩,fun κ w vals hl hr ok hh x hids ho A hA hA'=>?_⟩
       cases vals with
       | nil=>simp at hl
       | cons u us =>
        have hrest:=h3 κ w us (by simpa using hl) (fun i av v' g1 g2=>hr (i+1) av v' (by simpa using g1) (by simpa using g2)) ok hh x hids (fun _ h=>by cases h) A hA (fun _ _ _ _ h=>by cases h)
        refine⟨?_,j7v hoc hrest⟩
        have hu:RepSV L κ h w (.own id) u:=hr 0 _ u rfl rfl
        have hu:=hu.1
        rw[hid]at hu
        have hob:=ok.obj id
        rw[hid]at hob
        rcases hu with⟨a1,a2,a3⟩ | ⟨b,cap,a1,a2⟩
        ·exact .inl ⟨a1,a2,a3⟩
        ·rcases hob with⟨b1,_⟩ | ⟨b',cap',cur,b1,b2,b3,b4,b5,b6,b7⟩
         ·rw[a1]at b1;cases b1
         ·rw[a1]at b1;cases b1
          refine .inr ⟨b,cap,cur,a1,a2,(ok.own id b cap (by rw[hid];rfl) a1).1,b2,b3,b4,b5,b6,fun i y hy=>?_⟩
          have:=RepAt.mono (A':=A) (w':=w) (fun b hb=>⟨hA' id _ _ _ rfl hid b hb,rfl⟩) _ _ y (b7 i y hy)
          simpa[Nat.add_assoc]using this
     ·cases he
    ·cases he
   | _=>simp[M8]at he
theorem z9v {fn:Func} {a:Act} {w:World} {vals:List Value} (h:(fn.results.toList.mapM (q3l a)).run P w=.ok vals w):(results fn a.tmps).run P w=.ok (q1n vals) w:=by
 have h1:results fn a.tmps=(fn.results.mapM (q3l a) >>= fun vs=>pure (if h:vs.size=1 then vs[0]else .tuple vs)):=by
  unfold results
  congr 1
 rw[h1,Array.mapM_eq_mapM_toList]
 simp[h]
 match vals with
 | []=>rfl
 | [v]=>rfl
 | _::_::_=>simp[q1n]
theorem RepAt.cellsEq {w w':World} {A A':Nat->Prop} (hA:∀ b,A b->A' b) (hc:∀ a:Addr,w'.cell? a=w.cell? a) (hm:∀ (b:Nat) es cl,w.heap[b]? = some (Obj.map es cl)->w'.heap[b]? = some (Obj.map es cl)):∀ (t:Ty) (get:Nat->Option Value) (x:t.den),RepAt w A t get x->RepAt w' A' t get x
 | .int _,_,_,h=>h
 | .bool,_,_,h=>h
 | .nil,_,_,_=>trivial
 | .cons a b,get,x,h=>⟨RepAt.cellsEq hA hc hm a get x.1 h.1,RepAt.cellsEq hA hc hm b _ x.2 h.2⟩
 | .list e,get,x,h=>by
  obtain⟨sa,len,cap,hg,hl,hcap,hx⟩:=h
  refine⟨sa,len,cap,hg,hl,hcap,fun hne=>?_⟩
  obtain⟨b,o,hs,hAb,hel⟩:=hx hne
  refine⟨b,o,hs,hA b hAb,fun i y hi=>?_⟩
  have:=RepAt.cellsEq hA hc hm e _ y (hel i y hi)
  simp only[hc]
  exact this
 | .map ak av k v,get,x,h=>by
  obtain⟨b,es,cl,h1,h2,h3,h4⟩:=h
  exact⟨b,es,cl,h1,hA b h2,hm _ _ _ h3,h4.imp (fun y u hu=>hu.imp fun g hg=>RepAt.cellsEq hA hc hm k g y hg) (fun y u hu=>hu.imp fun g hg=>RepAt.cellsEq hA hc hm v g y hg)⟩
structure SameCells (L:Nat->Prop) (κ:A3) (h:Heap) (w w':World):Prop where
 cell:∀ a:Addr,w'.cell? a=w.cell? a
 size:w'.heap.size=w.heap.size
 maps:∀ (b:Nat) es cl,w.heap[b]? = some (Obj.map es cl)->w'.heap[b]? = some (Obj.map es cl)
theorem SameCells.at {κ:A3} {h:Heap} {w w':World} (x:SameCells L κ h w w') {t:Ty} {get:Nat->Option Value} {v:t.den} (hr:RepAt w (A4 L κ h w) t get v):RepAt w' (A4 L κ h w') t get v :=
 RepAt.cellsEq (fun b hb=>⟨by rw[x.size];exact hb.1,hb.2⟩) x.cell x.maps t get v hr
theorem SameCells.val {κ:A3} {h:Heap} {w w':World} (x:SameCells L κ h w w') {agg:Bool} {t:Ty} {v:Value} {y:t.den} (hr:RepVal w (A4 L κ h w) agg t v y):RepVal w' (A4 L κ h w') agg t v y:=by
 cases agg with
 | true=>obtain⟨cs,h1,h2,h3,h4⟩:=hr;exact⟨cs,h1,h2,h3,x.at h4⟩
 | false=>exact⟨hr.1,hr.2.1,x.at hr.2.2⟩
theorem SameCells.map {κ:A3} {h:Heap} {w w':World} (x:SameCells L κ h w w') {ak av:Bool} {tk tv:Ty} {l:List (tk.den×tv.den)} {es:Array MapEntry} {clock:Nat}
  (hr:MapRep w (A4 L κ h w) ak av tk tv l es clock):MapRep w' (A4 L κ h w') ak av tk tv l es clock where
 flat:=hr.flat
 rise:=hr.rise
 apart:=hr.apart
 early:=hr.early
 ents:=by
  obtain⟨p,h1,h2,h3⟩:=hr.ents
  exact⟨p,h1,h2,fun i y q a b=>⟨x.val (h3 i y q a b).1,x.val (h3 i y q a b).2⟩⟩
theorem SameCells.sv {κ:A3} {h:Heap} {w w':World} (x:SameCells L κ h w w'):∀ (s:SV) (v:Value),RepSV L κ h w s v->RepSV L κ h w' s v
 | .unk,_,_=>trivial
 | .sc _ _,_,⟨h1,h2,h3⟩=>⟨h1,h2,x.at h3⟩
 | .nils,_,hr=>hr
 | .nilp,_,hr=>hr
 | .udf,_,hr=>hr
 | .ne _ _,_,⟨h1,h2,h3⟩=>⟨h1,x.at h2,h3⟩
 | .nx,_,hr=>hr
 | .gl _,_,hr=>hr
 | .cstr _,_,hr=>hr
 | .gp _ _,_,⟨b,o,h1,h2,h3⟩=>⟨b,o,h1,⟨by rw[x.size];exact h2.1,h2.2⟩,by rw[x.cell];exact h3⟩
 | .own _,_,hr=>hr
 | .sub _ _ _,_,hr=>hr
 | .ptr _ _,_,hr=>hr
 | .eptr _ _ _ _,_,hr=>hr
 | .ro t y c,v,⟨b,o,h1,h2,h3⟩=>by
  refine⟨b,o,h1,⟨by rw[x.size];exact h2.1,h2.2⟩,?_⟩
  have:=x.at h3
  simp only[x.cell]
  exact this
 | .fn _ _,_,hr=>hr
 | .yld _,_,hr=>hr
 | .mp _,_,hr=>hr
 | .mpn,_,hr=>hr
 | .stmp _,_,hr=>hr
 | .csl _ _ _ _,_,hr=>hr
 | .nif,_,hr=>hr
 | .nilf,_,hr=>hr
 | .ifc _ _ _,_,⟨us,h1,h2,h3,h4⟩=>⟨us,h1,h2,h3,fun i p u hp hu=>⟨(h4 i p u hp hu).1,(h4 i p u hp hu).2.1,x.at (h4 i p u hp hu).2.2⟩⟩
 | .bfp _ _ _,_,hr=>hr
 | .bfn _ _ _,_,⟨us,h1,h2,h3,h4⟩=>⟨us,h1,h2,h3,fun i p u hp hu=>⟨(h4 i p u hp hu).1,(h4 i p u hp hu).2.1,x.at (h4 i p u hp hu).2.2⟩⟩
theorem SameCells.cells {κ:A3} {h:Heap} {w w':World} (x:SameCells L κ h w w') {l:List SV} {cs:List Value} (hr:RepCells L κ h w l cs):RepCells L κ h w' l cs :=
 ⟨hr.1,fun i s c h1 h2=>⟨x.sv s c (hr.2 i s c h1 h2).1,(hr.2 i s c h1 h2).2⟩⟩
theorem SameCells.comp {κ:A3} {h:Heap} {w w':World} (x:SameCells L κ h w w'):∀ {c:Bool×List SV} {v:Value},RepComp L κ h w c v->RepComp L κ h w' c v
 | (true,_),_,⟨cs,h1,h2⟩=>⟨cs,h1,x.cells h2⟩
 | (false,[s]),v,hr=>x.sv s v hr
 | (false,[]),_,hr=>hr.elim
 | (false,_::_::_),_,hr=>hr.elim
theorem SameCells.av {κ:A3} {h:Heap} {w w':World} (x:SameCells L κ h w w'):∀ {v:AV} {u:Value},RepAV L κ h w v u->RepAV L κ h w' v u
 | .one s,u,hr=>x.sv s u hr
 | .agg _,_,⟨cs,h1,h2⟩=>⟨cs,h1,x.cells h2⟩
 | .tup _,_,⟨vs,h1,h2,h3⟩=>⟨vs,h1,h2,fun i c u a b=>x.comp (h3 i c u a b)⟩
theorem j84 {κ:A3} {h:Heap} {w:World} {b:Nat} (hb:w.heap[b]? = some (.deferred (some []))):SameCells L κ h w (w.putObj b (.deferred none)) where
 cell a:=by
  unfold World.cell?
  by_cases e:a.block=b
  ·rw[e,World.putObj_heap_same (Array.getElem?_eq_some_iff.1 hb).1,hb]
  ·rw[World.putObj_heap_other e]
 size:=by simp
 maps b' es cl h':=by rw[World.putObj_heap_other (fun e=>by rw[e,hb]at h';cases h')];exact h'
theorem z6a {κ:A3} {h:Heap} {w w':World} (x:SameCells L κ h w w') {id:Nat} {e:TypeId} {t:Ty} {l:List t.den} (hh:∀ (b:Nat) (c:Array Value) (ty:TypeId) (f:Nat×Nat),w.heap[b]? = some (Obj.cells c ty f)->w'.heap[b]? = some (Obj.cells c ty f))
  (hr:RepArr L κ h w id e t l):RepArr L κ h w' id e t l:=by
 rcases hr with⟨a,b⟩ | ⟨b,cap,cur,h1,h2,h3,h4,h5,h6,h7⟩
 ·exact .inl ⟨a,b⟩
 ·exact .inr ⟨b,cap,cur,h1,hh _ _ _ _ h2,h3,h4,h5,h6,fun i y hy=>x.at (h7 i y hy)⟩
theorem y7b {κ:A3} {h:Heap} {w w':World} (x:SameCells L κ h w w') {n:Nat} (hh:∀ (b:Nat) (c:Array Value) (ty:TypeId) (f:Nat×Nat),w.heap[b]? = some (Obj.cells c ty f)->w'.heap[b]? = some (Obj.cells c ty f)) :
  ∀ {t:KTy} {v:Value} {y:t.den},RepKid L κ h w n t v y->RepKid L κ h w' n t v y
 | .arr _ _,_,_,⟨h1,h2⟩=>⟨h1,z6a x hh h2⟩
 | .map _ _ _ _,_,none,hr=>hr
 | .map _ _ _ _,_,some _,⟨b,c,es,cl,h1,h2,h3,h4⟩=>⟨b,c,es,cl,h1,h2,x.maps _ _ _ h3,x.map h4⟩
 | .ptr _,_,none,hr=>hr
 | .ptr _,_,some _,⟨b,c,cs,ty,h1,h2,h3,h4,h5,h6⟩=>⟨b,c,cs,ty,h1,h2,hh _ _ _ _ h3,h4,h5,x.at h6⟩
theorem j78 {κ:A3} {h:Heap} {w w':World} (x:SameCells L κ h w w') {n:Nat} {o:Option Nat} (hh:∀ (b:Nat) (c:Array Value) (ty:TypeId) (f:Nat×Nat),w.heap[b]? = some (Obj.cells c ty f)->w'.heap[b]? = some (Obj.cells c ty f))
  {t:KTy} {v:Value} {y:t.den} (hr:RepPart L κ h w n o t v y):RepPart L κ h w' n o t v y:=by
 cases o with
 | none=>exact y7b x hh hr
 | some g=>exact⟨x.sv _ _ hr.1,hr.2⟩
theorem y6z {κ:A3} {h:Heap} {w:World} (ok:HeapOK L w0 κ h w) {b:Nat} (hb:w.heap[b]? = some (.deferred (some []))) (h0:w0.heap.size<=b):HeapOK L w0 κ h (w.putObj b (.deferred none)):=by
 have x:=j84 (L:=L) (κ:=κ) (h:=h) hb
 have hcl:∀ (b':Nat) (c:Array Value) (ty:TypeId) (f:Nat×Nat),w.heap[b']? = some (Obj.cells c ty f)->(w.putObj b (.deferred none)).heap[b']? = some (Obj.cells c ty f):=fun b' c ty f hc=>by
  rw[World.putObj_heap_other (fun e=>by rw[e,hb]at hc;cases hc)];exact hc
 refine⟨fun id=>?_,ok.inj,fun i b' c hi hk=>by rw[x.size];exact ok.own i b' c hi hk,ok.below.trans ⟨rfl,rfl,rfl,by simp,fun k hk=>World.putObj_heap_other (by omega),Nat.le_refl _⟩,fun b hL=>⟨by rw[x.size];exact(ok.outer b hL).1,(ok.outer b hL).2⟩,ok.kids⟩
 have ho:=ok.obj id
 cases hq:h id with
 | fresh=>trivial
 | dead=>trivial
 | kid=>trivial
 | arrD e t l f =>
  rw[hq]at ho
  rcases ho with a | ⟨b',cap,cur,h1,h2,h3,h4,h5,h6,h7⟩
  ·exact .inl a
  ·refine .inr ⟨b',cap,cur,h1,hcl _ _ _ _ h2,h3,h4,h5,h6,fun i y hy=>?_⟩
   obtain⟨v,v1,v2⟩:=h7 i y hy
   exact⟨v,v1,j78 x hcl v2⟩
 | mapD ak tk t l f =>
  rw[hq]at ho
  obtain⟨b',c',es,cl,h1,h2,h3⟩:=ho
  obtain⟨p,p1,p2,p3⟩:=h3.ents
  exact⟨b',c',es,cl,h1,x.maps _ _ _ h2,h3.flat,h3.rise,h3.apart,h3.early,p,p1,p2,fun i z q hz hq'=>⟨x.val (p3 i z q hz hq').1,(p3 i z q hz hq').2.1,j78 x hcl (p3 i z q hz hq').2.2⟩⟩
 | cells l =>
  rw[hq]at ho
  obtain⟨b',c',cs,ty,h1,h2,h3⟩:=ho
  exact⟨b',c',cs,ty,h1,hcl _ _ _ _ h2,x.cells h3⟩
 | arr e t l=>rw[hq]at ho;exact z6a x hcl ho
 | ice e t l=>rw[hq]at ho;exact⟨z6a x hcl ho.1,fun b' c hk=>⟨by rw[x.size];exact(ho.2 b' c hk).1,(ho.2 b' c hk).2⟩⟩
 | lrec i s =>
  rw[hq]at ho
  obtain⟨b',c',r,h1,h2,h3,h4,h5,h6,h7,h8,h9⟩:=ho
  exact⟨b',c',r,h1,by rw[World.putObj_heap_other (fun e=>by rw[e,hb]at h2;cases h2)];exact h2,h3,h4,h5,h6,h7,h8,fun t=>x.av (h9 t)⟩
 | mapo ak av tk tv l =>
  rw[hq]at ho
  obtain⟨b',c',es,cl,h1,h2,h3⟩:=ho
  exact⟨b',c',es,cl,h1,by rw[World.putObj_heap_other (fun e=>by rw[e,hb]at h2;cases h2)];exact h2,x.map h3⟩
 | mapp ak av tk tv l k g =>
  rw[hq]at ho
  obtain⟨b',c',es,cl,h1,h2,h3,h4,n,c2,h5,y,h6,h7,h8⟩:=ho
  exact⟨b',c',es,cl,h1,by rw[World.putObj_heap_other (fun e=>by rw[e,hb]at h2;cases h2)];exact h2,x.map h3,h4,n,c2,h5,y,h6,h7,x.val h8⟩
 | mice ak av tk tv l =>
  rw[hq]at ho
  obtain⟨b',c',es,cl,h1,h2,h3,h4⟩:=ho
  exact⟨b',c',es,cl,h1,⟨by rw[x.size];exact h2.1,h2.2⟩,x.maps _ _ _ h3,x.map h4⟩
 | iter ak av tk tv l cu =>
  rw[hq]at ho
  obtain⟨b',c',m,si,se,c0,h1,h2,h3⟩:=ho
  refine⟨b',c',m,si,se,c0,h1,by rw[World.putObj_heap_other (fun e=>by rw[e,hb]at h2;cases h2)];exact h2,⟨?_⟩⟩
  rcases h3.map with g | ⟨b4,es,cl,g1,g2,g3,g4,g5,g6,g7,⟨p,p1,p2,p3⟩,g9⟩
  ·exact .inl g
  ·refine .inr ⟨b4,es,cl,g1,⟨by rw[x.size];exact g2.1,g2.2⟩,x.maps _ _ _ g3,g4,g5,g6,g7,⟨p,p1,p2,fun i y q a b=>⟨x.val (p3 i y q a b).1,x.val (p3 i y q a b).2⟩⟩,fun q hq=>?_⟩
   obtain⟨e0,y,y1,y2,y3,y4⟩:=g9 q hq
   exact⟨e0,y,y1,y2,x.val y3,x.val y4⟩
theorem z1m {fn:Func} {tmps:Array Value} {m:Nat} {R:Ending->World->Prop} {κ:A3} {h:Heap} {B:Nat} (hB:w0.heap.size<=B):∀ (ds:List Deferred) (w:World),MarksOK B ds w->HeapOK L w0 κ h w ->
  ∃ w',HeapOK L w0 κ h w'/\(∀ av v,RepAV L κ h w av v->RepAV L κ h w' av v)/\w'.heap.size=w.heap.size/\(∀ b,b<B->w'.heap[b]? = w.heap[b]?) /\
   ((∃ v,(results fn tmps).run P w'=.ok v w'/\R (.returned v) w')->LeavesInM (Fr none) m P fn tmps R ds .returning w)
 | [],w,_,ok=>⟨w,ok,fun _ _ h=>h,rfl,fun _ _=>rfl,fun h=>h⟩
 | d::ds,w,hm,ok=>by
  obtain⟨h0,bs,h1,h2,h3⟩:=hm
  cases bs with
  | nil=>cases h2
  | cons b bs =>
   simp only[List.map_cons,List.cons.injEq]at h2
   obtain⟨rfl,h2⟩:=h2
   obtain⟨hnb,hnd⟩:=List.nodup_cons.1 h1
   obtain⟨hBb,hb⟩:=h3 b List.mem_cons_self
   have ok':=y6z ok hb (Nat.le_trans hB hBb)
   have hm':MarksOK B ds (w.putObj b (.deferred none)):=⟨by simpa using h0,bs,hnd,h2,fun b' hb'=>⟨(h3 b' (List.mem_cons_of_mem _ hb')).1,by
    rw[World.putObj_heap_other (fun e=>hnb (by rw[<-e];exact hb'))];exact(h3 b' (List.mem_cons_of_mem _ hb')).2⟩⟩
   obtain⟨w',g1,g2,g3,g4,g5⟩:=z1m (fn:=fn) (tmps:=tmps) (m:=m) (R:=R) hB ds _ hm' ok'
   refine⟨w',g1,fun av v hr=>g2 av v ((j84 hb).av hr),by rw[g3];simp,fun b' hb'=>(g4 b' hb').trans (World.putObj_heap_other (by omega)),fun hres=>?_⟩
   exact⟨(by intro h;cases h),.inl ⟨b,_,rfl,run_takeDeferred hb,g5 hres⟩⟩
theorem z7i {C:Ctx} {w:World} (hC:CtxOK P L w C) (hmix:P.follows .mixedOrders=true) {f:FuncId} {fn:Func} (hf:P.funcs[f]? = some fn) {an:Ann} {rs:List RTy} {st0:St} {y:I8 rs} (hy:q6k C fn an rs st0=some y)
  {κ0:A3} {vals:List Value} (sim0:Sim P L w w.heap.size none κ0 st0 { tmps:=vals.toArray++Array.replicate (fn.ntmps-vals.toArray.size) undef,defers:=[] } w) (m:Nat) :
  CallsIn (Fr none) m P f vals.toArray w fun e w'=>∃ v,e=.returned v/\Below w.heap.size w w'/\R2 L w w' rs v y:=by
 unfold q6k at hy
 split at hy
 ·cases hy
 ·rename_i c hc
  obtain⟨k,st',hk,-,hrun⟩:=R7 hC hmix 0 c an _ _ _ y hy
  have fin:∀ {κ':A3} {a':Act} {w1:World},Sim P L w w.heap.size none κ' st' a' w1->∀ k':XK,(∀ i,k'≠.ex i)->(q0k C st' fn.results.toList fun avs=>M8 st'.h rs avs fun y ids o=>cond (match o with
   | some id=>!D9 ids id
   | none=>true) (some y) none)=some y->bodyPostM (Fr none) m P fn (fun e w'=>∃ v,e=.returned v/\Below w.heap.size w w'/\R2 L w w' rs v y) k'.exit a' w1:=by
   intro κ' a' w1 sim k' hk' he
   obtain⟨avs,h1,h2⟩:=q8s (P:=P) (L:=L) (w0:=w) (fun t ti h=>hC.ti t ti h) fn.results.toList _ y he
   obtain⟨w',okE,avE,szE,-,leave⟩:=z1m (P:=P) (fn:=fn) (tmps:=a'.tmps) (m:=m) (R:=fun e w'=>∃ v,e=.returned v/\Below w.heap.size w w'/\R2 L w w' rs v y) (Nat.le_refl _) a'.defers w1 sim.defs sim.heap
   obtain⟨vals',g1,g2,g3,g4⟩:=h2 κ' a' w' (fun t=>avE _ _ (sim.env t)) okE
   obtain⟨y',ids,o,r1,r2,r3⟩:=q8t (L:=L) (w0:=w) rs avs _ y h1
   obtain⟨hno,r1⟩:=B1 r1
   cases r1
   obtain⟨i1,i2,i3⟩:=X1 (w0:=w) ids okE
   have hown:∀ id,o=some id->A5 (B3 st'.h ids) st'.h id=st'.h id:=fun id ho=>by
    subst ho
    simp only[Bool.not_eq_true']at hno
    exact X0 (fun hm=>by rw[memb_iff.2 hm]at hno;cases hno)
   have hA:∀ (hh:Heap),(∀ id,o=some id->hh id=st'.h id)->∀ b,A4 L κ' hh w' b->(b<w'.heap.size/\¬ L b/\∀ c,o.bind κ'≠some (b,c)):=fun hh hq b hb=>⟨hb.1,hb.2.1,fun c hbo=>by
    cases o with
    | none=>cases hbo
    | some id =>
     obtain⟨e,t,l,hid⟩:=r2
     exact hb.2.2 id c (by rw[hq id rfl,hid];rfl) hbo⟩
   have hres:=r3 κ' w' vals' g2 g4 okE _ i2 i3 hown (fun b=>b<w'.heap.size/\¬ L b/\∀ c,o.bind κ'≠some (b,c)) (hA _ hown) (fun id e t l ho hid b hb=>hA st'.h (fun _ _=>rfl) b hb)
   have hall:LeavesInM (Fr none) m P fn a'.tmps (fun e w'=>∃ v,e=.returned v/\Below w.heap.size w w'/\R2 L w w' rs v y) a'.defers .returning w1 :=
    leave ⟨_,z9v g1,_,rfl,okE.below,o.bind κ',vals',rfl,hres⟩
   cases k' with
   | nrm=>exact hall
   | ret=>exact hall
   | ex i=>exact absurd rfl (hk' i)
  refine callsIn_of_wp_marks hf hc trivial ?_
  refine hrun w.heap.size none m _ _ w _ sim0 fun κ' a' w' sim ext lk=>?_
  cases k with
  | nrm=>exact fin sim .nrm (fun i h=>by cases h) hk
  | ret=>exact fin sim .ret (fun i h=>by cases h) hk
  | ex i=>cases hk
theorem C6 {C:Ctx} (hC:∀ L w0,GlobOK C.glob w0->CtxOK P L w0 C) (hmix:P.follows .mixedOrders=true) {f:FuncId} {fn:Func} (hf:P.funcs[f]? = some fn) (hname:(fn.name== "runtime.NumGoroutine")=false) {an:Ann} {as:List (Bool×Ty)} {rs:List RTy}
  {g:I4 as->Option (I8 rs)} (hb:fn.body.isSome=true) (hg:∀ x,j3n C fn an as rs x=g x):FunOK' P C.glob f { args:=as,res:=rs,f:=g }:=by
 refine⟨fun x y hy L w vals hG hL hargs m=>?_,fn,hf,hb,hname⟩
 simp only at hy hargs ⊢
 rw[<-hg x]at hy
 unfold j3n at hy
 obtain⟨hn,hy⟩:=B1 hy
 exact z7i (hC L w hG) hmix hf hy (j23 hL hargs (Nat.le_of_ble_eq_true hn)) m
theorem z7w {C:Ctx} (hC:∀ L w0,GlobOK C.glob w0->CtxOK P L w0 C) (hmix:P.follows .mixedOrders=true) {f:FuncId} {fn:Func} (hf:P.funcs[f]? = some fn) (hname:(fn.name== "runtime.NumGoroutine")=false) {an:Ann} {e:Ty} {rs:List RTy}
  {g:I4 [(false,.list e)]->Option (I8 rs)} (hb:fn.body.isSome=true) (hn:1<=fn.ntmps) (h1:q6k C fn an rs (z2h (.one .nx) fn.ntmps)=g ([],())) (h2:∀ l,q6k C fn an rs (z2h (.one (.ne e l)) fn.ntmps)=g (l,())) :
  FunOK' P C.glob f { args:=[(false,.list e)],res:=rs,f:=g }:=by
 refine⟨fun x y hy L w vals hG hL hargs m=>?_,fn,hf,hb,hname⟩
 simp only at hy hargs ⊢
 obtain⟨l,u⟩:=x
 cases u
 match vals,hargs with
 | [v],hargs =>
  obtain⟨⟨_,ho,hr⟩,-⟩:=hargs
  obtain⟨sa,len,cap,hv,hlen,hcap,hx⟩:=hr
  have hv:v=.slice sa len cap:=by simpa[F4]using hv
  have sim:∀ av:AV,RepAV L (fun _=>none) q0c w av v->Sim P L w w.heap.size none (fun _=>none) (z2h av fn.ntmps) { tmps:=[v].toArray++Array.replicate (fn.ntmps - [v].toArray.size) undef,defers:=[] } w:=fun av hav=>by
   refine⟨by simp[z2h];omega,fun t=>?_,j6g hL,MarksOK.nil (Nat.le_refl _),fun l hl=>by cases hl⟩
   show RepAV L _ _ _ (upd (fun _=>AV.one .unk) 0 av t) _
   by_cases ht:t=0
   ·subst ht
    rw[A1]
    have hg:([v].toArray++Array.replicate (fn.ntmps - [v].toArray.size) undef).getD 0 undef=v:=by simp[Array.getD_eq_getD_getElem?,Array.getElem?_append]
    show RepAV L _ _ _ av (([v].toArray++Array.replicate (fn.ntmps - [v].toArray.size) undef).getD 0 undef)
    rw[hg];exact hav
   ·rw[A0 _ _ ht];trivial
  cases sa with
  | none =>
   have hl:l=[]:=by
    cases l with
    | nil=>rfl
    | cons a r=>obtain⟨b,o,h,_⟩:=hx (by simp);cases h
   subst hl
   have h0:len=0:=by simpa using hlen
   subst h0
   rw[<-h1]at hy
   exact z7i (hC L w hG) hmix hf hy (sim _ ⟨cap,hv⟩) m
  | some ad =>
   rw[<-h2]at hy
   refine z7i (hC L w hG) hmix hf hy (sim _ ⟨ho,⟨some ad,len,cap,by simp[F4,hv],hlen,hcap,fun hne=>?_⟩,ad,len,cap,hv⟩) m
   obtain⟨b,o,q1,q2,q3⟩:=hx hne
   exact⟨b,o,q1,⟨q2.1,q2.2,fun _ _ _ h=>by cases h⟩,fun i y hi=>RepAt.mono (fun b hb=>⟨⟨hb.1,hb.2,fun _ _ _ h=>by cases h⟩,rfl⟩) e _ y (q3 i y hi)⟩
theorem j5m {κ:A3} {h:Heap} {w:World}:∀ (args:List AV) (vals:List Value) (i:Nat),vals.length=args.length->(∀ (j:Nat) (a:AV) (v:Value),args[j]? = some a->vals[j]? = some v->RepAV L κ h w a v) ->
  (∀ (j:Nat) (v:Value),vals[j]? = some v->RepAV L κ h w (q09 i args (i+j)) v)/\∀ t,t<i\/i+args.length<=t->q09 i args t=.one .unk
 | [],[],i,_,_=>⟨fun j v hj=>by simp at hj,fun _ _=>rfl⟩
 | [],_::_,_,hl,_=>by simp at hl
 | _::_,[],_,hl,_=>by simp at hl
 | a::r,v::vs,i,hl,hr=>by
  obtain⟨i1,i2⟩:=j5m r vs (i+1) (by simpa using hl) (fun j a v h1 h2=>hr (j+1) a v (by simpa using h1) (by simpa using h2))
  refine⟨fun j u hj=>?_,fun t ht=>?_⟩
  ·simp only[q09]
   cases j with
   | zero =>
    simp at hj;subst hj
    show RepAV L κ h w (upd (q09 (i+1) r) i a i) v
    rw[A1]
    exact hr 0 a v rfl rfl
   | succ j =>
    rw[A0 _ _ (by omega),show i+(j+1)=i+1+j from by omega]
    exact i1 j u (by simpa using hj)
  ·simp only[List.length_cons]at ht
   simp only[q09]
   rw[A0 _ _ (by omega)]
   exact i2 t (by omega)
theorem y7r {κ:A3} {h:Heap} {w:World} {lo:Nat->Bool} {args:List AV} {vals:List Value} {n:Nat} (hl:vals.length=args.length) (hr:∀ (j:Nat) (a:AV) (v:Value),args[j]? = some a->vals[j]? = some v->RepAV L κ h w a v) (ok:HeapOK L w0 κ h w) (hn:args.length<=n) :
  Sim P L w0 w.heap.size none κ { ρ:=q09 0 args,h,lt:=fun _=>false,lo,n } { tmps:=vals.toArray++Array.replicate (n-vals.toArray.size) undef,defers:=[] } w:=by
 obtain⟨h1,h2⟩:=j5m (L:=L) (κ:=κ) (h:=h) (w:=w) args vals 0 hl hr
 refine⟨by simp;omega,fun t=>?_,ok,MarksOK.nil (Nat.le_refl _),fun l hl=>by cases hl⟩
 by_cases ht:t<vals.length
 ·have:=h1 t vals[t] (List.getElem?_eq_getElem ht)
  rw[Nat.zero_add]at this
  have hg:(vals.toArray++Array.replicate (n-vals.toArray.size) undef).getD t undef=vals[t]:=by
   simp[Array.getD_eq_getD_getElem?,Array.getElem?_append,ht]
  show RepAV L _ _ _ (q09 0 args t) _
  rw[hg];exact this
 ·show RepAV L _ _ _ (q09 0 args t) _
  rw[h2 t (by omega)]
  trivial
theorem v1r {κ:A3} {h:Heap} {w:World} {avs:List AV} {vals:List Value} (hl:vals.length=avs.length) (hnt:avs.all z9g=true) (hr:∀ (i:Nat) (av:AV) (v:Value),avs[i]? = some av->vals[i]? = some v->RepAV L κ h w av v) :
  RepAV L κ h w (q5b avs) (q1n vals):=by
 have gen:q5b avs=.tup (avs.map j36)->q1n vals=.tuple vals.toArray->RepAV L κ h w (q5b avs) (q1n vals):=fun h1 h2=>by
  rw[h1,h2]
  refine⟨vals,rfl,by simpa using hl,fun i c u hc hu=>?_⟩
  rw[List.getElem?_map]at hc
  cases hav:avs[i]? with
  | none=>rw[hav]at hc;cases hc
  | some av =>
   rw[hav]at hc
   cases hc
   have h3:=hr i av u hav hu
   have h4:=List.all_eq_true.1 hnt av (List.mem_of_getElem? hav)
   cases av with
   | one s=>exact h3
   | agg l=>exact h3
   | tup l=>cases h4
 match avs,vals,hl,hr,gen with
 | [a],[v],_,hr,_=>exact hr 0 a v rfl rfl
 | [],[],_,_,gen=>exact gen rfl rfl
 | _::_::_,_::_::_,_,_,gen=>exact gen rfl rfl
theorem j7y {κ:A3} {h:Heap} {w:World}:∀ (ps:List Tmp) (args:List AV) (vals:List Value) (ρ:Env) (tmps:Array Value),args.length=ps.length->vals.length=ps.length->(∀ t∈ps,t<tmps.size) ->
  (∀ (i:Nat) (a:AV) (v:Value),args[i]? = some a->vals[i]? = some v->RepAV L κ h w a v)->(∀ t,RepAV L κ h w (ρ t) (tmps.getD t undef)) ->
  ((ps.zip vals).foldl (fun tmps (t,a)=>tmps.setIfInBounds t a) tmps).size=tmps.size/\∀ t,RepAV L κ h w (z4g ps args ρ t) (((ps.zip vals).foldl (fun tmps (t,a)=>tmps.setIfInBounds t a) tmps).getD t undef)
 | [],_,_,_,_,_,_,_,_,he=>⟨rfl,by simpa[z4g]using he⟩
 | _::_,[],_,_,_,h1,_,_,_,_=>by simp at h1
 | _::_,_::_,[],_,_,_,h1,_,_,_=>by simp at h1
 | p::ps,a::args,v::vals,ρ,tmps,h1,h2,h3,h4,h5=>by
  obtain⟨g1,g2⟩:=j7y ps args vals (upd ρ p a) (tmps.setIfInBounds p v) (by simpa using h1) (by simpa using h2) (fun t ht=>by simpa using h3 t (List.mem_cons_of_mem _ ht))
   (fun i a v hi hv=>h4 (i+1) a v (by simpa using hi) (by simpa using hv)) (fun t=>by
    by_cases ht:t=p
    ·subst ht
     rw[A1]
     simp only[Array.getD_eq_getD_getElem?,Array.getElem?_setIfInBounds_self_of_lt (h3 t List.mem_cons_self),Option.getD_some]
     exact h4 0 a v rfl rfl
    ·rw[A0 _ _ ht]
     simp only[Array.getD_eq_getD_getElem?,Array.getElem?_setIfInBounds_ne (Ne.symm ht)]
     have:=h5 t
     simpa[Array.getD_eq_getD_getElem?]using this)
  exact⟨by simpa using g1,g2⟩
theorem j7l {κ:A3} {h:Heap} {w:World} (ok:HeapOK L w0 κ h w) {id:Nat} {i:RI} {s:RS} (hid:h id=.lrec i s) (s':RS) :
  ∃ b c,κ id=some (b,c)/\∃ r:Loop,w.heap[b]? = some (.loop r)/\r.state=s.state/\r.pending=s.pend/\∀ r':Loop,r'.state=s'.state->r'.pending=s'.pend->r'.params=r.params->r'.assign=r.assign->r'.body=r.body->r'.tmps=r.tmps ->
   HeapOK L w0 κ (upd h id (.lrec i s')) (w.putObj b (.loop r'))/\Ext L κ h w κ (upd h id (.lrec i s')) (w.putObj b (.loop r')):=by
 have ho:=ok.obj id
 rw[hid]at ho
 obtain⟨b,c,r,p1,p2,p3,p4,p5,p6,p7,p8,p9⟩:=ho
 refine⟨b,c,p1,r,p2,p3,p4,fun r' q1 q2 q3 q4 q5 q6=>?_⟩
 have hsize:(w.putObj b (.loop r')).heap.size=w.heap.size:=by simp
 have hlt:b<w.heap.size:=(Array.getElem?_eq_some_iff.1 p2).1
 have hnew:(w.putObj b (.loop r')).heap[b]? = some (.loop r'):=World.putObj_heap_same hlt
 have hoth:∀ b',b'≠b->(w.putObj b (.loop r')).heap[b']? = w.heap[b']?:=fun b' hb=>World.putObj_heap_other hb
 have hlike:(h id).like (.lrec i s'):=by rw[hid];exact rfl
 have e:=R8 (L:=L) (κ:=κ) (h:=h) p1 hlike (.inr ⟨r,_,p2,hnew⟩) hsize hoth
 have hown:=ok.own id b c (by rw[hid];rfl) p1
 exact⟨U3 ok p1 hlike hsize hoth (ok.below.trans ⟨rfl,rfl,rfl,by simp,fun b' hb=>hoth b' (by omega),Nat.le_refl _⟩)
  ⟨b,c,r',p1,hnew,q1,q2,q3.trans p5,q4.trans p6,q5.trans p7,by rw[q6];exact p8,fun t=>by rw[q6];exact RepAV.ext e (p9 t)⟩,e⟩
def y1i (P:Program) (L:Nat->Prop) (w0:World) (f:FuncId) (g:List AV->Heap->(Nat->Bool)->Nat->(R:Type)->(AV->Heap->Option R)->Option R):Prop :=
 ∀ args h lo ib (R:Type) (K:AV->Heap->Option R) (z:R),g args h lo ib R K=some z->∃ av h',K av h'=some z/\(∀ id,lo id=true->h' id=h id) /\
  ∀ κ w (vals:List Value),vals.length=args.length->(∀ (i:Nat) (a:AV) (v:Value),args[i]? = some a->vals[i]? = some v->RepAV L κ h w a v)->HeapOK L w0 κ h w ->
   ∀ m,CallsIn (Fr none) m P f vals.toArray w fun e w'=>∃ v κ',e=.returned v/\HeapOK L w0 κ' h' w'/\RepAV L κ' h' w' av v/\Ext L κ h w κ' h' w'
theorem y4f {T:Tables} (hti:∀ t ti,T.TI t=some ti->ti.OK P t) (hsp:∀ f s,T.sp f=some s->FunOK' P T.gl f s) (hsr:∀ f,T.srt f=true->Sort1 P f) (hsn:∀ f k,T.srn f=some k->q1v P f k) (hif:∀ t,T.ifc t=true->∃ ms,P.underlying t=some (.interface ms)) (hme:∀ t n f,T.meth t n=some f->q61 P t n f)
  (hov:∀ f g,T.ov f=some g->∀ (L:Nat->Prop) (w0:World),GlobOK T.gl w0->y1i P L w0 f g)
  (hinl:∀ f,T.inl f=true->∃ fn,P.funcs[f]? = some fn/\fn.body.isSome=true/\(fn.name== "runtime.NumGoroutine")=false)
  (hbd:∀ f ib fn an,T.bd f ib=some (fn,an)->P.funcs[f]? = some fn/\fn.body.isSome=true/\(fn.name== "runtime.NumGoroutine")=false) (hmix:P.follows .mixedOrders=true) :
  ∀ (n:Nat) (L:Nat->Prop) (w0:World),GlobOK T.gl w0->ICallOK P L w0 (K1 T n).ic T.inl/\z5t P L w0 (K1 T n).yc:=by
 intro n
 induction n with
 | zero=>exact fun L w0 _=>⟨⟨(fun f args h lo ib R K z _ he=>by cases he),hinl⟩,fun id args h lo R K z he=>by cases he⟩
 | succ n ih =>
  refine fun L w0 hG=>⟨⟨fun f args h lo ib R K z hi he=>?_,hinl⟩,fun id args h lo R K z he=>?_⟩
  ·have hC:CtxOK P L w0 (T.ctx (K1 T n).ic (K1 T n).yc):=⟨hti,hsp,hG,(ih L w0 hG).1,(ih L w0 hG).2,hsr,hsn,hif,hme⟩
   simp only[K1]at he
   split at he
   ·rename_i g hg
    exact hov f g hg L w0 hG args h lo ib R K z he
   ·split at he
    ·cases he
    rename_i fn an hbf
    split at he
    ·cases he
    ·rename_i c hc
     obtain⟨hn,he⟩:=B1 he
     have hn:=Nat.le_of_ble_eq_true hn
     obtain⟨k,st',hk,sl,hrun⟩:=R7 hC hmix ib c an _ _ _ z he
     have main:∀ k':XK,k=k'->(∀ i,k'≠.ex i)->(q0k (T.ctx (K1 T n).ic (K1 T n).yc) st' fn.results.toList fun avs=>cond (avs.all z9g) (K (q5b avs) st'.h) none)=some z ->
       ∃ av h',K av h'=some z/\(∀ id,lo id=true->h' id=h id)/\∀ κ w (vals:List Value),vals.length=args.length->(∀ (i:Nat) (a:AV) (v:Value),args[i]? = some a->vals[i]? = some v->RepAV L κ h w a v)->HeapOK L w0 κ h w ->
        ∀ m,CallsIn (Fr none) m P f vals.toArray w fun e w'=>∃ v κ',e=.returned v/\HeapOK L w0 κ' h' w'/\RepAV L κ' h' w' av v/\Ext L κ h w κ' h' w':=by
      intro k' hkk hk' hres
      obtain⟨avs,h1,h2⟩:=q8s (P:=P) (L:=L) (w0:=w0) hti fn.results.toList _ z hres
      obtain⟨hnt,h1⟩:=B1 h1
      refine⟨_,_,h1,fun id hid=>sl.obj id hid,fun κ w vals hl hr ok m=>?_⟩
      refine callsIn_of_wp_marks (hbd f ib fn an hbf).1 hc trivial ?_
      refine hrun w.heap.size none m κ _ w _ (y7r hl hr ok hn) fun κ' a' w1 sim ext lk=>?_
      obtain⟨w',okE,avE,szE,loE,leave⟩:=z1m (P:=P) (fn:=fn) (tmps:=a'.tmps) (m:=m) (R:=fun e w'=>∃ v κ',e=.returned v/\HeapOK L w0 κ' st'.h w'/\RepAV L κ' st'.h w' (q5b avs) v/\Ext L κ h w κ' st'.h w') ok.below.size a'.defers w1 sim.defs sim.heap
      obtain⟨vals',g1,g2,g3,g4⟩:=h2 κ' a' w' (fun t=>avE _ _ (sim.env t)) okE
      have ext':Ext L κ h w κ' st'.h w':=⟨ext.place,ext.kid,ext.dead,ext.cells,ext.arr,ext.arrD,ext.ice,ext.lrec,ext.maps,ext.iter,fun b hb=>by
       obtain⟨f1,f2⟩:=ext.still b hb
       exact⟨⟨by rw[szE];exact f1.1,f1.2⟩,(loE b hb.1).trans f2⟩,by rw[szE];exact ext.size,fun b r hr=>by
       obtain⟨r',hr'⟩:=ext.loops b r hr
       exact⟨r',(loE b (Array.getElem?_eq_some_iff.1 hr).1).trans hr'⟩,fun b hr=>(loE b (Array.getElem?_eq_some_iff.1 hr).1).trans (ext.defs b hr)⟩
      have hall:=leave ⟨_,z9v g1,_,κ',rfl,okE,v1r g2 hnt g4,ext'⟩
      subst hkk
      cases k with
      | nrm=>exact hall
      | ret=>exact hall
      | ex i=>exact absurd rfl (hk' i)
     cases k with
     | nrm=>exact main .nrm rfl (fun i h=>by cases h) hk
     | ret=>exact main .ret rfl (fun i h=>by cases h) hk
     | ex i=>cases hk
  ·have hC:CtxOK P L w0 (T.ctx (K1 T n).ic (K1 T n).yc):=⟨hti,hsp,hG,(ih L w0 hG).1,(ih L w0 hG).2,hsr,hsn,hif,hme⟩
   simp only[K1]at he
   split at he
   ·rename_i i an1 an2 hid hrd
    obtain⟨hc,he⟩:=B1 he
    simp only[Bool.and_eq_true,List.all_eq_true,Bool.not_eq_true']at hc
    obtain⟨⟨hal,hps⟩,hlo⟩:=hc
    have hal:=Nat.eq_of_beq_eq_true hal
    obtain⟨k,st1,hk,sl1,hrun1⟩:=R7 hC hmix _ i.assign an1 _ _ _ z he
    split at hk
    ·rename_i i1 hs1
     obtain⟨k2,st2,hk2,sl2,hrun2⟩:=R7 hC hmix _ i.body an2 _ _ _ z hk
     split at hk2
     ·rename_i i2 hs2
      refine⟨_,_,hk2,fun j hj=>?_,fun κ w vals b c hvl hr ok hkb=>?_⟩
      ·have hne:j≠id:=fun e=>by rw[e,hlo]at hj;cases hj
       rw[A0 _ _ hne,sl2.obj j (by show st1.lo j=true;rw[sl1.lo];exact hj)]
       show upd st1.h id _ j=h j
       rw[A0 _ _ hne]
       exact sl1.obj j hj
      ·have ho:=ok.obj id
       rw[hid]at ho
       obtain⟨b',c',rc,p1,p2,p3,p4,p5,p6,p7,p8,p9⟩:=ho
       rw[hkb]at p1;cases p1
       refine⟨rc,p2,by rw[p5,hvl,hal];simp,fun m=>roundIn_of_wpIn trivial ?_⟩
       rw[p6,p7]
       have hz:(rc.params.zip vals.toArray).foldl (fun tmps (t,a)=>tmps.setIfInBounds t a) rc.tmps=(i.ps.zip vals).foldl (fun tmps (t,a)=>tmps.setIfInBounds t a) rc.tmps:=by
        rw[p5,<-Array.foldl_toList];simp
       rw[hz]
       obtain⟨z1,z2⟩:=j7y (L:=L) (κ:=κ) (h:=h) (w:=w) i.ps args vals i.ρ rc.tmps hal (by rw[hvl];exact hal) (fun t ht=>by rw[p8];exact Nat.le_of_ble_eq_true (hps t ht)) hr p9
       refine hrun1 w.heap.size (some b) m κ _ w _ ⟨z1.trans p8,z2,ok,MarksOK.nil (Nat.le_refl _),fun l hl=>by cases hl;exact⟨rc,p2⟩⟩ fun κ1 a1 w1 sim1 ext1 _=>?_
       obtain⟨b1,c1,q1,r1,q2,q3,q3',q4⟩:=j7l sim1.heap hs1 .busy
       have hb1:b1=b:=by
        have:=(ext1.place id (by show(h id).Held;rw[hid];simp)).trans hkb
        rw[q1]at this;cases this;rfl
       subst hb1
       refine⟨_,run_beginRound q2 q3,?_⟩
       obtain⟨okB,extB⟩:=q4 { r1 with state:=.busy } rfl q3' rfl rfl rfl rfl
       refine hrun2 w.heap.size (some b1) m κ1 a1 _ _ ⟨sim1.size,fun t=>RepAV.ext extB (sim1.env t),okB,sim1.defs.keep extB.size extB.defs,fun l hl=>by
        obtain⟨l',h4⟩:=sim1.rnd l hl
        exact extB.loops l l' h4⟩ fun κ2 a2 w2 sim2 ext2 _=>?_
       obtain⟨b2,c2,t1,r2,t2,t3,-,t4⟩:=j7l sim2.heap hs2 (q0m k2).2
       have hb2:b2=b1:=by
        have:=(ext2.place id (by show(upd st1.h id _ id).Held;rw[A1];simp)).trans q1
        rw[t1]at this;cases this;rfl
       subst hb2
       have fin:∀ jump:Option Code,(if jump.isNone then LoopState.ready else .done)=(q0m k2).2.state->jump=(q0m k2).2.pend->jump.isNone=(q0m k2).1->∃ v w',(Instr.endRound b2 jump).run P w2=.ok v w' /\
         ∃ v' κ',Ending.returned v=.returned v'/\HeapOK L w0 κ' (upd st2.h id (.lrec i2 (q0m k2).2)) w'/\RepAV L κ' (upd st2.h id (.lrec i2 (q0m k2).2)) w' (H4 (q0m k2).1) v'/\Ext L κ h w κ' (upd st2.h id (.lrec i2 (q0m k2).2)) w':=by
        intro jump hj1 hj2 hj3
        refine⟨_,_,run_endRound jump t2,_,κ2,rfl,?_⟩
        obtain⟨okE,extE⟩:=t4 { r2 with state:=if jump.isNone then .ready else .done,pending:=jump } hj1 hj2 rfl rfl rfl rfl
        exact⟨okE,⟨rfl,rfl,by rw[hj3];rfl⟩,ext1.trans (extB.trans (ext2.trans extE))⟩
       cases k2 with
       | nrm=>exact fin none rfl rfl rfl
       | ret=>exact fin (some .ret) rfl rfl rfl
       | ex j=>exact fin (some (.exit j)) rfl rfl rfl
     ·cases hk2
    ·cases hk
   ·cases he
end Go.Abs
