/- The engine, part 8: numbers, addresses, slices, literals. -/
import Derived.Test.YtkfjlcdaepckoaaAbsSound4
namespace Go.Abs
open Go Go.RowKit
variable {P:Program} {L:Nat->Prop} {w0:World}
theorem j60 (op:BinOp) (T:TypeId) (x y:Operand) (k k':IntKind) (a b:Int) (w:World):(eqGuard op T x y (.int k a) (.int k' b)).run P w=.ok () w:=by
 cases op<;>rfl
theorem j6c {a:Act} {o:Oper} {op:BinOp} {T T':TypeId} {x y:Operand} (ho:o.op=.binOp op T x y T') {k k':IntKind} {p q:Int} (hx:a.eval x=.int k p) (hy:a.eval y=.int k' q) (w:World) :
  (execOp a.eval o).run P w=((binOp op T (.int k p) (.int k' q)).run P w).andThen fun v w'=>.ok (.value v) w':=by
 unfold execOp
 rw[ho]
 simp only[hx,hy,Sem.run_bind,j60,Result.andThen_ok,Sem.run_pure]
theorem y22 {R:Type} {o:Oper} {op:BinOp} {T T':TypeId} {x y:Operand} (ho:o.op=.binOp op T x y T') {ρ:Env} {k k':IntKind} {p q:Int}
  (hx:ev ρ x=.one (.sc (.int k) p)) (hy:ev ρ y=.one (.sc (.int k') q)) {K:AV->Option R} {z:R} (he:z0e op k k' p q K=some z) :
  ∃ av,K av=some z/\∀ (ρs:Env) (hs:Heap),ev ρs x=ev ρ x->ev ρs y=ev ρ y->A6 P L w0 o ρs hs hs av:=by
 have fin:∀ (av:AV) (v:Value),(∀ w,(binOp op T (.int k p) (.int k' q)).run P w=.ok v w)->(∀ κ h w,RepAV L κ h w av v)->∀ (ρs:Env) (hs:Heap),ev ρs x=ev ρ x->ev ρs y=ev ρ y->A6 P L w0 o ρs hs hs av:=by
  intro av v hrun hrep ρs hs h1 h2
  refine C6 (fun c hc=>by rw[ho]at hc;cases hc) fun κ a w hev ok=>?_
  have hxv:=hev x
  rw[h1,hx]at hxv
  have hyv:=hev y
  rw[h2,hy]at hyv
  exact⟨v,by rw[j6c ho (G2 hxv) (G2 hyv),hrun w];rfl,hrep κ hs w⟩
 unfold z0e at he
 split at he
 ·cases hd:decide (q<0)with
  | true=>rw[hd]at he;cases he
  | false =>
   rw[hd]at he
   have hq:¬ q<0:=of_decide_eq_false hd
   exact⟨_,he,fin _ (.int k (N1 k p q)) (fun w=>by simp[binOp,Op.shift,hq,N1]) (fun _ _ _=>G7 _ _)⟩
 ·cases hd:decide (q<0)with
  | true=>rw[hd]at he;cases he
  | false =>
   rw[hd]at he
   have hq:¬ q<0:=of_decide_eq_false hd
   exact⟨_,he,fin _ (.int k (O7 k p q)) (fun w=>by simp[binOp,Op.shift,hq,O7]) (fun _ _ _=>G7 _ _)⟩
 ·rename_i h1 h2
  split at he
  ·cases he
  ·rename_i hk _
   subst hk
   split at he
   ·exact⟨_,he,fin _ (.int k (k.wrap (p+q))) (fun w=>by simp[binOp,Op.intArith]) (fun _ _ _=>G7 _ _)⟩
   ·exact⟨_,he,fin _ (.int k (k.wrap (p-q))) (fun w=>by simp[binOp,Op.intArith]) (fun _ _ _=>G7 _ _)⟩
   ·exact⟨_,he,fin _ (.int k (k.wrap (p*q))) (fun w=>by simp[binOp,Op.intArith]) (fun _ _ _=>G7 _ _)⟩
   ·cases hd:(q==0)with
    | true=>rw[hd]at he;cases he
    | false =>
     rw[hd]at he
     have hq:¬ q=0:=by simpa using hd
     exact⟨_,he,fin _ (.int k (k.wrap (p.tdiv q))) (fun w=>by simp[binOp,Op.intDiv,hq]) (fun _ _ _=>G7 _ _)⟩
   ·cases hd:(q==0)with
    | true=>rw[hd]at he;cases he
    | false =>
     rw[hd]at he
     have hq:¬ q=0:=by simpa using hd
     exact⟨_,he,fin _ (.int k (p.tmod q)) (fun w=>by simp[binOp,Op.intDiv,hq]) (fun _ _ _=>G7 _ _)⟩
   ·exact⟨_,he,fin _ (.int k (D0 .and k p q)) (fun w=>by simp[binOp,Op.intBits,D0]) (fun _ _ _=>G7 _ _)⟩
   ·exact⟨_,he,fin _ (.int k (D0 .or k p q)) (fun w=>by simp[binOp,Op.intBits,D0]) (fun _ _ _=>G7 _ _)⟩
   ·exact⟨_,he,fin _ (.int k (D0 .xor k p q)) (fun w=>by simp[binOp,Op.intBits,D0]) (fun _ _ _=>G7 _ _)⟩
   ·exact⟨_,he,fin _ (.int k (D0 .andNot k p q)) (fun w=>by simp[binOp,Op.intBits,D0]) (fun _ _ _=>G7 _ _)⟩
   ·exact⟨_,he,fin _ (.bool (p==q)) (fun w=>by simp[binOp,Op.intCmp]) (fun _ _ _=>M2 _)⟩
   ·exact⟨_,he,fin _ (.bool (p != q)) (fun w=>by simp[binOp,Op.intCmp]) (fun _ _ _=>M2 _)⟩
   ·exact⟨_,he,fin _ (.bool (decide (p<q))) (fun w=>by simp[binOp,Op.intCmp]) (fun _ _ _=>M2 _)⟩
   ·exact⟨_,he,fin _ (.bool (decide (p<=q))) (fun w=>by simp[binOp,Op.intCmp]) (fun _ _ _=>M2 _)⟩
   ·exact⟨_,he,fin _ (.bool (decide (p>q))) (fun w=>by simp[binOp,Op.intCmp]) (fun _ _ _=>M2 _)⟩
   ·exact⟨_,he,fin _ (.bool (decide (p≥q))) (fun w=>by simp[binOp,Op.intCmp]) (fun _ _ _=>M2 _)⟩
   ·cases he
theorem j0m {o:Oper} {op:BinOp} {T T':TypeId} {x y:Operand} (ho:o.op=.binOp op T x y T') {ti:TInfo} (hti:ti.OK P T) (hagg:ti.agg=false) (hty:ti.ty=.bool) {ρ:Env} {p q:Bool}
  (hx:ev ρ x=.one (.sc .bool p)) (hy:ev ρ y=.one (.sc .bool q)) {b:Bool} (hop:(op=.eql/\b=(p==q))\/(op=.neq/\b=(p != q))) (hs:Heap):A6 P L w0 o ρ hs hs (G3 b):=by
 refine C6 (fun c hc=>by rw[ho]at hc;cases hc) fun κ a w hev ok=>?_
 have hxv:=hev x
 rw[hx]at hxv
 have hyv:=hev y
 rw[hy]at hyv
 have hu:=hti.boolT hagg hty
 have heq:(Op.equal T (.bool p) (.bool q)).run P w=.ok (p==q) w:=by
  unfold Op.equal
  rw[show Op.maxDepth=9999+1 from rfl]
  generalize (9999:Nat)=n
  unfold Op.equalIn
  rw[Sem.run_bind,run_underlying hu]
  rfl
 refine⟨.bool b,?_,M2 b⟩
 have hg:∀ op:BinOp,(eqGuard op T x y (.bool p) (.bool q)).run P w=.ok () w:=fun op=>by cases op<;>rfl
 unfold execOp
 rw[ho]
 simp only[V1 hxv,V1 hyv,Sem.run_bind,hg,Result.andThen_ok]
 rcases hop with⟨rfl,rfl⟩ | ⟨rfl,rfl⟩
 ·show((do pure (.bool (<-Op.equal T (.bool p) (.bool q))):Sem Value).run P w).andThen _=_
  rw[Sem.run_bind,heq]
  rfl
 ·show((do pure (.bool (!(<-Op.equal T (.bool p) (.bool q)))):Sem Value).run P w).andThen _=_
  rw[Sem.run_bind,heq]
  rfl
theorem q88 {o:Oper} {op:BinOp} {T T':TypeId} {x y:Operand} (ho:o.op=.binOp op T x y T') {ti:TInfo} (hti:ti.OK P T) {e:TypeId} (hel:ti.elem=some e) {ρ:Env} {s:SV} {b:Bool}
  (hx:ev ρ x=.one s) (hs:(∃ t l,s=.ne t l/\b=false)\/(s=.nx/\b=true)) (hy:ev ρ y=.one .nils) {c:Bool} (hop:(op=.eql/\c=b)\/(op=.neq/\c=!b)) (hh:Heap):A6 P L w0 o ρ hh hh (G3 c):=by
 refine C6 (fun c hc=>by rw[ho]at hc;cases hc) fun κ a w hev ok=>?_
 have hxv:=hev x
 rw[hx]at hxv
 have hyv:=hev y
 rw[hy]at hyv
 have hyv:a.eval y=.slice none 0 0:=hyv
 obtain⟨-,d,hd,-,hde,-⟩:=hti.base
 have hu:P.underlying T=some (.slice e):=by
  rcases hde with hde | ⟨e',h1,h2⟩
  ·rw[hel]at hde;cases hde
  ·rw[hel]at h1;cases h1;rw[hd,h2]
 have hv:∃ sa len cap,a.eval x=.slice sa len cap/\sa.isNone=b:=by
  rcases hs with⟨t,l,rfl,rfl⟩ | ⟨rfl,rfl⟩
  ·obtain⟨_,_,ad,len,cap,h⟩:=hxv;exact⟨some ad,len,cap,h,rfl⟩
  ·obtain⟨cap,h⟩:=hxv;exact⟨none,0,cap,h,rfl⟩
 obtain⟨sa,len,cap,hv,hb⟩:=hv
 have heq:(Op.equal T (.slice sa len cap) (.slice none 0 0)).run P w=.ok b w:=by
  unfold Op.equal
  rw[show Op.maxDepth=9999+1 from rfl]
  generalize (9999:Nat)=n
  unfold Op.equalIn
  rw[Sem.run_bind,run_underlying hu]
  cases sa with
  | none=>subst hb;rfl
  | some ad=>subst hb;rfl
 refine⟨.bool c,?_,M2 c⟩
 have hg:∀ op:BinOp,(eqGuard op T x y (.slice sa len cap) (.slice none 0 0)).run P w=.ok () w:=fun op=>by cases op<;>rfl
 unfold execOp
 rw[ho]
 simp only[hv,hyv,Sem.run_bind,hg,Result.andThen_ok]
 rcases hop with⟨rfl,rfl⟩ | ⟨rfl,rfl⟩
 ·show((do pure (.bool (<-Op.equal T (.slice sa len cap) (.slice none 0 0))):Sem Value).run P w).andThen _=_
  rw[Sem.run_bind,heq]
  rfl
 ·show((do pure (.bool (!(<-Op.equal T (.slice sa len cap) (.slice none 0 0)))):Sem Value).run P w).andThen _=_
  rw[Sem.run_bind,heq]
  rfl
theorem y30 {R:Type} {o:Oper} {op:UnOp} {T:TypeId} {x:Operand} (ho:o.op=.unOp op T x) {ρ:Env} {K:AV->Option R} {z:R} (he:z1c op (ev ρ x) K=some z) :
  ∃ av,K av=some z/\∀ (ρs:Env) (hs:Heap),ev ρs x=ev ρ x->A6 P L w0 o ρs hs hs av:=by
 have hd:∀ c,o.op≠.defer c:=fun c hc=>by rw[ho]at hc;cases hc
 unfold z1c at he
 split at he
 ·rename_i k n hx
  refine⟨_,he,fun ρs hs h1=>C6 hd fun κ a w hev ok=>⟨_,?_,G7 k _⟩⟩
  have hxv:=hev x
  rw[h1,hx]at hxv
  unfold execOp
  simp[ho,G2 hxv,Op.unary,Op.intArith]
 ·rename_i k n hx
  refine⟨_,he,fun ρs hs h1=>C6 hd fun κ a w hev ok=>⟨_,?_,G7 k _⟩⟩
  have hxv:=hev x
  rw[h1,hx]at hxv
  unfold execOp
  simp[ho,G2 hxv,Op.unary,Op.intBits,D0]
 ·rename_i b hx
  refine⟨_,he,fun ρs hs h1=>C6 hd fun κ a w hev ok=>⟨_,?_,M2 _⟩⟩
  have hxv:=hev x
  rw[h1,hx]at hxv
  unfold execOp
  simp[ho,V1 hxv,Op.unary]
 ·cases he
theorem j0t {o:Oper} {x:Operand} (ho:o.op=.move x\/o.op=.assign x) (ρs:Env) (hs:Heap):A6 P L w0 o ρs hs hs (ev ρs x):=by
 refine C6 (fun c hc=>by rcases ho with ho | ho<;>rw[ho]at hc<;>cases hc) fun κ a w hev ok=>⟨a.eval x,?_,hev x⟩
 unfold execOp
 rcases ho with ho | ho<;>rw[ho]<;>rfl
theorem j0w {o:Oper} {c x y:Operand} (ho:o.op=.pick c x y) {t:Bool} {ρs:Env} (hc:ev ρs c=.one (.sc .bool t)) (hs:Heap) :
  A6 P L w0 o ρs hs hs (ev ρs (if t then x else y)):=by
 refine C6 (fun c hc=>by rw[ho]at hc;cases hc) fun κ a w hev ok=>⟨a.eval (if t then x else y),?_,hev _⟩
 have hcv:=hev c
 rw[hc]at hcv
 unfold execOp
 simp only[ho,V1 hcv,asBool,Sem.run_bind,Sem.run_pure,Result.andThen_ok]
 cases t<;>rfl
theorem y1i {o:Oper} {S T:TypeId} {x:Operand} {ti tsi:TInfo} (hti:ti.OK P T) (hts:tsi.OK P S) (ho:o.op=.convert S T x) {k k':IntKind} {n:Int} (hagg:ti.agg=false) (hty:ti.ty=.int k)
  {ρs:Env} (hx:ev ρs x=.one (.sc (.int k') n)) (hs:Heap):A6 P L w0 o ρs hs hs (D8 k (k.wrap n)):=by
 refine C6 (fun c hc=>by rw[ho]at hc;cases hc) fun κ a w hev ok=>⟨_,?_,G7 k _⟩
 have hxv:=hev x
 rw[hx]at hxv
 obtain⟨-,d,hd,-,-,hk,-⟩:=hti.base
 obtain⟨-,ds,hds,-⟩:=hts.base
 have:=hk k hagg hty
 subst this
 unfold execOp
 simp only[ho,G2 hxv,convert,Sem.run_bind,run_underlying hd,run_underlying hds,Result.andThen_ok]
 cases ds<;>simp[Conv.intToInt]
theorem j0p {o:Oper} {x:Operand} {i:Nat} (ho:o.op=.extract x i) {ρs:Env} {l:List (Bool×List SV)} (hx:ev ρs x=.tup l) {c:Bool×List SV} (hc:l[i]? = some c) {av:AV}
  (hav:(∃ cs,c=(true,cs)/\av=.agg cs)\/(∃ s,c=(false,[s])/\av=.one s)) (hs:Heap):A6 P L w0 o ρs hs hs av:=by
 refine C6 (fun c hc=>by rw[ho]at hc;cases hc) fun κ a w hev ok=>?_
 have hxv:=hev x
 rw[hx]at hxv
 obtain⟨vs,hv,hlen,hrep⟩:=hxv
 have hlt:i<vs.length:=by rw[hlen];exact(List.getElem?_eq_some_iff.1 hc).1
 have hg:vs[i]? = some vs[i]:=List.getElem?_eq_getElem hlt
 refine⟨vs[i],?_,?_⟩
 ·unfold execOp
  simp[ho,hv,Instr.extract,hlt]
 ·have:=hrep i c vs[i] hc hg
  rcases hav with⟨cs,rfl,rfl⟩ | ⟨s,rfl,rfl⟩
  ·exact this
  ·exact this
theorem z3d {o:Oper} {x:Operand} (ho:o.op=.nilCheck x) {ρs:Env} (hx:(∃ id off,ev ρs x=.one (.ptr id off))\/(∃ id t i c,ev ρs x=.one (.eptr id t i c))\/(∃ t y c,ev ρs x=.one (.ro t y c))) (hs:Heap) :
  A6 P L w0 o ρs hs hs (ev ρs x):=by
 refine C6 (fun c hc=>by rw[ho]at hc;cases hc) fun κ a w hev ok=>⟨a.eval x,?_,hev x⟩
 have hxv:=hev x
 have:∃ ad,a.eval x=.pointer (some ad):=by
  rcases hx with⟨id,off,hx⟩ | ⟨id,t,i,c,hx⟩ | ⟨t,y,c,hx⟩<;>rw[hx]at hxv
  ·obtain⟨_,b,c,_,hv⟩:=hxv;exact⟨_,hv⟩
  ·obtain⟨_,b,c,_,hv⟩:=hxv;exact⟨_,hv⟩
  ·obtain⟨b,o,hv,_⟩:=hxv;exact⟨_,hv⟩
 obtain⟨ad,had⟩:=this
 unfold execOp
 simp[ho,had]
theorem z4a {ti:TInfo} {T:TypeId} (hti:ti.OK P T) (hstr:ti.str=true) {f:Nat} {fi:FI} (hf:ti.flds[f]? = some fi):∃ fs fd i' d',P.underlying T=some (.struct fs)/\fs[f]? = some fd/\fd.offset=fi.off /\
  P.info? fd.type=some i'/\i'.size=fi.size/\P.underlying fd.type=some d'/\P7 d'=fi.agg:=by
 obtain⟨-,d,hd,-,-,-,hfl⟩:=hti.base
 obtain⟨fs,hfs,-,hall⟩:=hfl hstr
 obtain⟨fd,i',d',h1,h2,h3,h4,h5,h6⟩:=hall f fi hf
 exact⟨fs,fd,i',d',by rw[hd,hfs],h1,h2,h3,h4,h5,h6⟩
theorem y0r {ti:TInfo} {T:TypeId} (hti:ti.OK P T) (hstr:ti.str=true) {f:Nat} {fi:FI} (hf:ti.flds[f]? = some fi) (hpos:1<=fi.size) (b o:Nat) (w:World) :
  (Instr.fieldAt T (.pointer (some ⟨b,o,none⟩)) f).run P w=.ok (.pointer (some ⟨b,o+fi.off,none⟩)) w:=by
 obtain⟨fs,fd,i',d',h1,h2,h3,h4,h5,h6,h7⟩:=z4a hti hstr hf
 have hne:¬ i'.size=0:=by omega
 simp[Instr.fieldAt,run_underlying h1,h2,Instr.sureAddr,fieldPlace,O6 h4,hne,P0,h3]
theorem z3c {o:Oper} {T:TypeId} {x:Operand} {f:Nat} {ti:TInfo} (hti:ti.OK P T) (hstr:ti.str=true) (ho:o.op=.fieldAddr T x f) {fi:FI} (hf:ti.flds[f]? = some fi) (hpos:1<=fi.size) {ρs:Env} {av:AV}
  (hx:(∃ id off,ev ρs x=.one (.ptr id off)/\av=.one (.ptr id (off+fi.off)))\/(∃ id t i c,ev ρs x=.one (.eptr id t i c)/\av=.one (.eptr id t i (c+fi.off))) \/
   (∃ t y c,ev ρs x=.one (.ro t y c)/\av=.one (.ro t y (c+fi.off)))) (hs:Heap):A6 P L w0 o ρs hs hs av:=by
 refine C6 (fun c hc=>by rw[ho]at hc;cases hc) fun κ a w hev ok=>?_
 have hxv:=hev x
 have ex:∀ b o',a.eval x=.pointer (some ⟨b,o',none⟩)->(execOp a.eval o).run P w=.ok (.value (.pointer (some ⟨b,o'+fi.off,none⟩))) w:=by
  intro b o' he
  unfold execOp
  simp only[ho,he,Sem.run_bind,y0r hti hstr hf hpos,Result.andThen_ok,Sem.run_pure]
 rcases hx with⟨id,off,hx,rfl⟩ | ⟨id,t,i,c,hx,rfl⟩ | ⟨t,y,c,hx,rfl⟩<;>rw[hx]at hxv
 ·obtain⟨hn,b,c,hk,hv⟩:=hxv
  exact⟨_,ex b off hv,hn,b,c,hk,rfl⟩
 ·obtain⟨hn,b,cap,hk,hv⟩:=hxv
  exact⟨_,ex b _ hv,hn,b,cap,hk,by rw[Nat.add_assoc]⟩
 ·obtain⟨b,o',hv,hfr,hr⟩:=hxv
  exact⟨_,ex b _ hv,b,o',by rw[Nat.add_assoc],hfr,hr⟩
theorem j0q {o:Oper} {T:TypeId} {x:Operand} {f:Nat} {ti:TInfo} (hti:ti.OK P T) (hstr:ti.str=true) (ho:o.op=.field T x f) {fi:FI} (hf:ti.flds[f]? = some fi) {ρs:Env} {cs:List SV} (hx:ev ρs x=.agg cs) {av:AV}
  (_hle:fi.off+fi.size<=cs.length) (hav:(fi.agg=true/\av=.agg ((cs.drop fi.off).take fi.size))\/(fi.agg=false/\∃ s,cs[fi.off]? = some s/\av=.one s)) (hs:Heap):A6 P L w0 o ρs hs hs av:=by
 refine C6 (fun c hc=>by rw[ho]at hc;cases hc) fun κ a w hev ok=>?_
 have hxv:=hev x
 rw[hx]at hxv
 obtain⟨us,hv,hus⟩:=hxv
 obtain⟨fs,fd,i',d',h1,h2,h3,h4,h5,h6,h7⟩:=z4a hti hstr hf
 rcases hav with⟨hag,rfl⟩ | ⟨hag,s,hsc,rfl⟩
 ·refine⟨.agg ((us.drop fi.off).take fi.size).toArray,?_,(us.drop fi.off).take fi.size,rfl,by simp[hus.1],fun j s c hj hc=>?_⟩
  ·unfold execOp
   simp only[ho,hv,Instr.field,part,Sem.run_bind,run_underlying h1,Result.andThen_ok,h2,asAgg,Sem.run_pure,Y0 h6,h7,hag,if_true,O6 h4,h5,h3]
   congr 4
   apply Array.toList_inj.1
   simp[List.extract_eq_take_drop]
  ·have hlt:j<fi.size:=by have:=(List.getElem?_eq_some_iff.1 hj).1;simp at this;omega
   rw[List.getElem?_take_of_lt hlt,List.getElem?_drop]at hj hc
   exact hus.2 _ s c hj hc
 ·obtain⟨c,hc,hrep,_⟩:=V0 hus hsc
  refine⟨c,?_,hrep⟩
  unfold execOp
  simp only[ho,hv,Instr.field,part,Sem.run_bind,run_underlying h1,Result.andThen_ok,h2,asAgg,Sem.run_pure,Y0 h6,h7,hag,Bool.false_eq_true,if_false,h3]
  simp[hc]
theorem y2g {o:Oper} {f:FuncId} {caps:Array Operand} (ho:o.op=.makeFunc (.func f) #[] caps) {ρs:Env} {l:List (Nat×Nat)} (hc:T4 (ev ρs) caps.toList=some l) (hs:Heap) :
  A6 P L w0 o ρs hs hs (.one (.fn f l)):=by
 refine C6 (fun c hc=>by rw[ho]at hc;cases hc) fun κ a w hev ok=>⟨.func (.func f) #[] (caps.map a.eval),?_,?_⟩
 ·unfold execOp
  simp[ho,Instr.makeFunc]
 ·have key:∀ (xs:List Operand) (l:List (Nat×Nat)),T4 (ev ρs) xs=some l->(xs.map a.eval).length=l.length/\∀ (i:Nat) (p:Nat×Nat),l[i]? = some p ->
    (hs p.1).Held/\∃ b c,κ p.1=some (b,c)/\(xs.map a.eval)[i]? = some (.pointer (some ⟨b,p.2,none⟩)):=by
   intro xs
   induction xs with
   | nil=>intro l h;simp[T4]at h;subst h;exact⟨rfl,fun i p hp=>by simp at hp⟩
   | cons x xs ih =>
    intro l h
    simp only[T4]at h
    split at h
    ·rename_i id off l' hx hl'
     cases h
     obtain⟨h1,h2⟩:=ih l' hl'
     refine⟨by simp at h1 ⊢;exact h1,fun i p hp=>?_⟩
     cases i with
     | zero =>
      simp at hp;subst hp
      have hxv:=hev x
      rw[hx]at hxv
      obtain⟨hn,b,c,hk,hv⟩:=hxv
      exact⟨hn,b,c,hk,by simp[hv]⟩
     | succ i=>simp only[List.getElem?_cons_succ]at hp;obtain⟨a1,b,c,a2,a3⟩:=h2 i p hp;exact⟨a1,b,c,a2,by simpa using a3⟩
    ·cases h
  obtain⟨h1,h2⟩:=key caps.toList l hc
  refine⟨caps.toList.map a.eval,?_,h1,h2⟩
  congr 1
  apply Array.toList_inj.1
  simp
theorem z98 {κ:A2} {h:Heap} {w:World}:∀ (l:List SV) (cs:List ((t:Ty)×t.den)) (us:List Value),q2g l=some cs->RepCells L κ h w l us ->
  us.length=cs.length/\∀ (i:Nat) (p:(t:Ty)×t.den) (u:Value),cs[i]? = some p->us[i]? = some u->p.1.size=1/\u.oneCell'=true/\RepAt w (A4 L κ h w) p.1 (E3 u) p.2
 | [],cs,us,hp,hr=>by
  simp only[q2g,Option.some.injEq]at hp
  subst hp
  exact⟨hr.1,fun i p u h1 _=>by simp at h1⟩
 | s::r,cs,us,hp,hr=>by
  cases s with
  | sc t x =>
   simp only[q2g]at hp
   split at hp
   ·rename_i cs' hcs
    cases hp
    cases us with
    | nil=>have:=hr.1;simp at this
    | cons u us =>
     have hr':RepCells L κ h w r us:=⟨by have:=hr.1;simpa using this,fun i s c h1 h2=>hr.2 (i+1) s c (by simpa using h1) (by simpa using h2)⟩
     obtain⟨h1,h2⟩:=z98 r cs' us hcs hr'
     refine⟨by simp[h1],fun i p v hi hv=>?_⟩
     cases i with
     | zero =>
      simp only[List.getElem?_cons_zero,Option.some.injEq]at hi hv
      subst hi;subst hv
      exact(hr.2 0 _ _ rfl rfl).1
     | succ i=>exact h2 i p v (by simpa using hi) (by simpa using hv)
   ·cases hp
  | _=>simp[q2g]at hp
theorem z97 {κ:A2} {h:Heap} {w:World} {av:AV} {v:Value} {agg:Bool} {cs:List ((t:Ty)×t.den)} (hp:q0b av=some (agg,cs)) (hr:RepAV L κ h w av v) :
  ∃ us:List Value,v=cond agg (.agg us.toArray) (us.headD undef)/\us.length=cs.length/\(agg=false->us.length=1) /\
   ∀ (i:Nat) (p:(t:Ty)×t.den) (u:Value),cs[i]? = some p->us[i]? = some u->p.1.size=1/\u.oneCell'=true/\RepAt w (A4 L κ h w) p.1 (E3 u) p.2:=by
 cases av with
 | one s =>
  cases s with
  | sc t x =>
   simp only[q0b,Option.some.injEq,Prod.mk.injEq]at hp
   obtain⟨rfl,rfl⟩:=hp
   refine⟨[v],rfl,rfl,fun _=>rfl,fun i p u hi hu=>?_⟩
   cases i with
   | zero =>
    simp only[List.getElem?_cons_zero,Option.some.injEq]at hi hu
    subst hi;subst hu
    exact hr
   | succ i=>simp at hi
  | _=>simp[q0b]at hp
 | agg l =>
  simp only[q0b]at hp
  split at hp
  ·rename_i cs' hcs
   simp only[Option.some.injEq,Prod.mk.injEq]at hp
   obtain⟨rfl,rfl⟩:=hp
   obtain⟨us,hv,hus⟩:=hr
   obtain⟨h1,h2⟩:=z98 l cs' us hcs hus
   exact⟨us,hv,h1,(fun h=>by cases h),h2⟩
  ·cases hp
 | tup l=>simp[q0b]at hp
theorem y2d {o:Oper} {f:FuncId} {x:Operand} (ho:o.op=.makeFunc (.func f) #[x] #[]) {ρs:Env} {agg:Bool} {cs:List ((t:Ty)×t.den)} (hc:q0b (ev ρs x)=some (agg,cs)) (hs:Heap) :
  A6 P L w0 o ρs hs hs (.one (.bfn f agg cs)):=by
 refine C6 (fun c hc=>by rw[ho]at hc;cases hc) fun κ a w hev ok=>⟨.func (.func f) #[a.eval x] #[],?_,?_⟩
 ·unfold execOp
  simp[ho,Instr.makeFunc]
 ·obtain⟨us,h1,h2,h3,h4⟩:=z97 hc (hev x)
  exact⟨us,by rw[h1],h2,h3,h4⟩
theorem y0y {o:Oper} {T:TypeId} {ti:TInfo} (hti:ti.OK P T) (ho:o.op=.alloc T) {ρs:Env} {hs:Heap} {id':Nat} (hf:hs id'=.fresh) :
  A6 P L w0 o ρs hs (upd hs id' (.cells ti.zeros)) (.one (.ptr id' 0)):=by
 refine I3 (fun c hc=>by rw[ho]at hc;cases hc) fun κ a w hev ok=>?_
 obtain⟨i,z,hi,hisz,hiby,hiz,hzs,hzl,hrep,-⟩:=hti.zero_one (L:=L)
 have hx:=N4 (L:=L) (κ:=κ) (h:=hs) (w:=w) (.cells z.cells T) (AObj.cells ti.zeros) 0 hf
 refine⟨_,.pointer (some ⟨w.heap.size,0,none⟩),w.alloc (.cells z.cells T),?_,S4 ok _ _ 0 hf ⟨w.heap.size,0,z.cells.toList,T,A1 _ _ _,by simpa using heap_alloc_new w _,hrep _ _ _⟩,⟨by rw[A1];simp,_,_,A1 _ _ _,rfl⟩,hx⟩
 unfold execOp
 simp[ho,Instr.alloc,zeroValue,q50 hi,hiz,newVar,newRow]
theorem y1a {o:Oper} {T:TypeId} {x:Operand} (ho:o.op=.box T x) {ρs:Env} {hs:Heap} {id':Nat} (hf:hs id'=.fresh) {vs:List SV} (hv:cellsOf (ev ρs x)=some vs) (hk:vs.all SV.known=true) :
  A6 P L w0 o ρs hs (upd hs id' (.cells vs)) (.one (.ptr id' 0)):=by
 refine I3 (fun c hc=>by rw[ho]at hc;cases hc) fun κ a w hev ok=>?_
 obtain⟨us,hus,hrep⟩:=q3c (hev x) hv hk
 have hx:=N4 (L:=L) (κ:=κ) (h:=hs) (w:=w) (.cells us.toArray T) (AObj.cells vs) 0 hf
 refine⟨_,.pointer (some ⟨w.heap.size,0,none⟩),w.alloc (.cells us.toArray T),?_,S4 ok _ _ 0 hf ⟨w.heap.size,0,us,T,A1 _ _ _,heap_alloc_new w _,hrep.ext hx⟩,⟨by rw[A1];simp,_,_,A1 _ _ _,rfl⟩,hx⟩
 unfold execOp
 simp[ho,Instr.box,newVar,newRow,hus]
end Go.Abs
