/- Sorting, in plain Lean: a list sorted by a comparator that is a strict total order on the list's members. -/
namespace Go.Abs
variable {α:Type}
def ltF (f:α->α->Option Int) (x y:α):Prop:=∃v,f x y=some v/\v<0
structure SortOK (f:α->α->Option Int) (l:List α):Prop where
 all:∀x∈l,∀y∈l,∃v,f x y=some v
 irr:∀x∈l,¬ltF f x x
 trans:∀x∈l,∀y∈l,∀z∈l,ltF f x y->ltF f y z->ltF f x z
 tri:∀x∈l,∀y∈l,¬ltF f x y->¬ltF f y x->x=y
def Srt (f:α->α->Option Int) (l:List α):Prop:=l.Pairwise λx y=>¬ltF f y x
theorem SortOK.sub {f:α->α->Option Int} {l m:List α} (h:SortOK f l) (hm:∀x∈m,x∈l):SortOK f m where
 all x hx y hy:=h.all x (hm x hx) y (hm y hy)
 irr x hx:=h.irr x (hm x hx)
 trans x hx y hy z hz:=h.trans x (hm x hx) y (hm y hy) z (hm z hz)
 tri x hx y hy:=h.tri x (hm x hx) y (hm y hy)
theorem z8v {f:α->α->Option Int}:∀{l m:List α},SortOK f l->l.Perm m->Srt f l->Srt f m->l=m
 | [],m,_,hp,_,_=>(List.nil_perm.1 hp).symm
 | a::l,[],_,hp,_,_=>absurd hp.symm (by simp)
 | a::l,b::m,h,hp,h1,h2=>by
  have p1:=List.pairwise_cons.1 h1;have p2:=List.pairwise_cons.1 h2;have hab:a=b:=by
   rcases List.mem_cons.1 (hp.mem_iff.1 (List.mem_cons_self ..):a∈b::m)with e | ha
   ·exact e
   ·rcases List.mem_cons.1 (hp.mem_iff.2 (List.mem_cons_self ..):b∈a::l)with e | hb
    ·exact e.symm
    ·exact h.tri a (List.mem_cons_self ..) b (List.mem_cons_of_mem _ hb) (p2.1 a ha) (p1.1 b hb)
  subst hab;rw[z8v (h.sub λx hx=>List.mem_cons_of_mem _ hx) hp.cons_inv p1.2 p2.2]
open Classical in
noncomputable def O6 (f:α->α->Option Int) (l:List α):Option (List α) :=
 if h:SortOK f l/\∃m,m.Perm l/\Srt f m then some (choose h.2)else none
theorem y5p {f:α->α->Option Int} {l m:List α} (h:O6 f l=some m):SortOK f l/\m.Perm l/\Srt f m:=by
 unfold O6 at h;split at h
 ·rename_i hh;cases h;have:=Classical.choose_spec hh.2;exact⟨hh.1,this.1,this.2⟩
 ·cases h
theorem z8i {f:α->α->Option Int} {l m:List α} (h:SortOK f l) (hp:m.Perm l) (hs:Srt f m):O6 f l=some m:=by
 have hh:SortOK f l/\∃m,m.Perm l/\Srt f m:=⟨h,m,hp,hs⟩;unfold O6;rw[dif_pos hh];have:=Classical.choose_spec hh.2;rw[z8v (h.sub λx hx=>this.1.mem_iff.1 hx) (this.1.trans hp.symm) this.2 hs]
end Go.Abs
