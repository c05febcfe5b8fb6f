/- The engine, part 28: rules by which simp steps through plain functions; loops over a word's bits in closed form. -/
import Derived.Test.YtecofmaegcibeaaGreatDoorAbsWords
namespace Go.Abs
open Go
theorem dcT {p:Prop} [Decidable p] (h:p):decide p=true:=decide_eq_true h
theorem dcF {p:Prop} [Decidable p] (h:¬p):decide p=false:=decide_eq_false h
variable {x:Int} {y:Int}
theorem J5 (h:x=y):(x==y)=true:=by simpa using h
theorem U6 (h:¬x=y):(x==y)=false:=by simpa using h
theorem q4i (h:¬x=y):(x != y)=true:=by simpa using h
theorem K3 (h:x=y):(x != y)=false:=by simpa using h
variable {α:Type} {i:Nat}
theorem q4u {l:List α} {d:α} (h:i<l.length):l[i]? = some (l.getD i d):=by
 rw[aR,af h];rfl
theorem z4l {l:List Nat} (h:i<l.length):(cl l)[i]? = some ((l.getD i 0:Nat):Int):=by
 rw[v2y,q4u h];rfl
variable {n:Nat} {g:Nat->α}
theorem j9w (h:i<n):A5 (tab n g) (i:Int)=some (g i):=by rw[X1,H7 g h]
theorem j2a (h:i<n):(tab n g)[i]? = some (g i):=H7 g h
theorem z4k {d:α} (h:i<n):(tab n g).getD i d=g i:=by
 rw[aR,H7 g h];rfl
theorem j9v {l:List Int} (h:i<l.length):A5 l (i:Int)=some (l.getD i 0):=by rw[X1,q4u h]
theorem C3 (h:i<n):inB (i:Int) n=true:=by rw[v5p];exact decide_eq_true h
theorem B2 (h:i<9223372036854775807):IntKind.i64.wrap ((i:Int)+1)=((i+1:Nat):Int):=by
 rw[F6 (by omega) (by omega)];rfl
theorem z5i {l:List Nat}:(cl l).length=l.length:=v2z l
theorem P4:(tab n g).length=n:=E8 n g
theorem q49 (n:Nat) (g:Nat->α):tab n g++[g n]=tab (n+1) g:=(j5n n g).symm
theorem j5x (h:i<32):2^i<2^32:=cR (by decide) h
theorem z5m {a:Nat} (h:a<2^32):a<2^64:=bc h (by decide)
theorem k4x (n:Nat) (p:Nat->Bool):R4 (n+1) p=cond (p n) (R4 n p ||| 2^n) (R4 n p):=by
 rw[R4];cases p n<;>rfl
variable {β:Type}
theorem v6v {σ:Type} {f:σ->Option (σ⊕β)} (n:Nat) (s:Nat->σ) (g:Nat->Option β) (e:β) (h:∀i:Nat,i<n->f (s i)=some (match g i with
   | some b=>.inr b
   | none=>.inl (s (i+1)))) (hend:f (s n)=some (.inr e)) :
  A1 f (s 0)=some (((List.range n).findSome? g).getD e):=by
 have key:∀k i,i+k=n->A1 f (s i)=some (((List.range' i k).findSome? g).getD e):=by
  intro k
  induction k with
  | zero =>
   intro i hi;have:i=n:=by omega
   subst this;exact D9 hend
  | succ k ih =>
   intro i hi;have hs:=h i (by omega);rw[cY,bM];cases hg:g i with
   | some b=>rw[hg]at hs;exact D9 hs
   | none=>rw[hg]at hs;rw[H4 hs];exact ih (i+1) (by omega)
 have:=key n 0 (by omega);rw[cD];exact this
def T3 (v k:Nat):Nat:=2^k*(v >>> k)
theorem y0k (v:Nat):T3 v 0=v:=by simp[T3]
theorem y0j (v k:Nat):v >>> k=2*(v >>> (k+1))+(if v.testBit k=true then 1 else 0):=by
 have h:v >>> (k+1)=(v >>> k) / 2:=by rw[Nat.shiftRight_succ]
 have hb:v.testBit k=decide ((v >>> k) % 2=1):=by
  rw[Nat.testBit,Nat.one_and_eq_mod_two];rcases ew (v >>> k)with e | e<;>simp[e]
 rw[h,hb];by_cases e:(v >>> k) % 2=1<;>simp[e]<;>omega
variable {v:Nat}
theorem y0h {k:Nat} (h:v.testBit k=false):T3 v k=T3 v (k+1):=by
 unfold T3;rw[y0j,h,dT,dj];simp
theorem y0i {k:Nat} (h:v.testBit k=true):T3 v k=2^k*(2*(v >>> (k+1))+1)/\T3 v (k+1)=2^k*(2*(v >>> (k+1))):=by
 unfold T3;refine⟨by rw[y0j,h];rfl,by rw[dT,dj]⟩
theorem y0g (v k:Nat):T3 v k<=v:=by
 unfold T3;rw[cL];exact Nat.mul_div_le _ _
theorem y0f {m:Nat} (h:v<2^m):T3 v m=0:=by
 unfold T3;rw[cL,cm h,fF]
theorem j3a {S:Type} {f:Int×S->Option ((Int×S)⊕β)} (m:Nat) (s:Nat->S) (e:β) (hv:v<2^m) (hm:m<=64) (h:∀r q,2^r*(2*q+1)<2^64->v.testBit r=true->r<m->f (((2^r*(2*q+1):Nat):Int),s r)=some (.inl (((2^r*(2*q):Nat):Int),s (r+1)))) (hoff:∀r,r<m->v.testBit r=false->s (r+1)=s r) (hend:f (0,s m)=some (.inr e)):A1 f ((v:Int),s 0)=some e:=by
 have h64:v<2^64:=bc hv (bX (by decide) hm);have key:∀k i,i+k=m->A1 f (((T3 v i:Nat):Int),s i)=some e:=by
  intro k
  induction k with
  | zero =>
   intro i hi;have:i=m:=by omega
   subst this;rw[y0f hv];exact D9 hend
  | succ k ih =>
   intro i hi;have hih:=ih (i+1) (by omega);cases hb:v.testBit i with
   | false=>rw[y0h hb,<-hoff i (by omega) hb];exact hih
   | true =>
    have h1:=y0i hb;have hle:=y0g v i;rw[h1.1]at hle;rw[h1.1,H4 (h i (v >>> (i+1)) (by omega) hb (by omega)),<-h1.2];exact hih
 have:=key m 0 (by omega)
 rwa [y0k]at this
theorem v6r {S:Type} {f:Int×S->Option ((Int×S)⊕β)} (m:Nat) (s:Nat->S) (g:Nat->Option β) (e:β) (hv:v<2^m) (hm:m<=64) (h:∀r q,2^r*(2*q+1)<2^64->v.testBit r=true->r<m->f (((2^r*(2*q+1):Nat):Int),s r)=some (match g r with
   | some b=>.inr b
   | none=>.inl (((2^r*(2*q):Nat):Int),s (r+1)))) (hoff:∀r,r<m->v.testBit r=false->s (r+1)=s r) (hend:f (0,s m)=some (.inr e)) :
  A1 f ((v:Int),s 0)=some (((List.range m).findSome? λr=>if v.testBit r=true then g r else none).getD e):=by
 have h64:v<2^64:=bc hv (bX (by decide) hm);have key:∀k i,i+k=m->A1 f (((T3 v i:Nat):Int),s i)=some (((List.range' i k).findSome? λr=>if v.testBit r=true then g r else none).getD e):=by
  intro k
  induction k with
  | zero =>
   intro i hi;have:i=m:=by omega
   subst this;rw[y0f hv];exact D9 hend
  | succ k ih =>
   intro i hi;have hih:=ih (i+1) (by omega);rw[cY,bM];cases hb:v.testBit i with
   | false=>rw[y0h hb,<-hoff i (by omega) hb];exact hih
   | true =>
    have h1:=y0i hb;have hle:=y0g v i;rw[h1.1]at hle;have hs:=h i (v >>> (i+1)) (by omega) hb (by omega);rw[h1.1,if_pos rfl];cases hg:g i with
    | some b=>rw[hg]at hs;exact D9 hs
    | none=>rw[hg]at hs;rw[H4 hs,<-h1.2];exact hih
 have:=key m 0 (by omega);rw[y0k]at this;rw[this,cD]
theorem D3 {σ:Type} {f:σ->Option (σ⊕β)} (n:Nat) (s:Nat->σ) (e:β) (h:∀i:Nat,i<n->f (s i)=some (.inl (s (i+1)))) (hend:f (s n)=some (.inr e)) {s0:σ} (h0:s 0=s0):A1 f s0=some e :=
 h0▸v6t n s e h hend
end Go.Abs
