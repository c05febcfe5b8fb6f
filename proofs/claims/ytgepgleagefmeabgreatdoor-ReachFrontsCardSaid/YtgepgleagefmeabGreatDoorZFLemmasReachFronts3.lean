/- Lemmas on functions of the program, by name. -/
import Derived.Test.YtgepgleagefmeabGreatDoorZFFuns
import Derived.Test.YtgepgleagefmeabGreatDoorAbsSums
import Derived.Test.YtgepgleagefmeabGreatDoorZFLemmasReachFronts2
import Derived.Test.YtgepgleagefmeabGreatDoorZFLemmasReachFronts1
namespace Go.Proofs.Tryz
section
open Go Go.Abs

theorem qrcn6:∀ r:Fin 64,getI lit0 (shrI .u64 (IntKind.u64.wrap (((2 ^ r.val:Nat):Int)*(285870213051353865:Int))) (58:Int))=some (r.val:Int):=by decide +kernel
theorem tz_eq {r q:Nat} (h:2 ^ r*(2*q+1) < 2 ^ 64):qtgi6 (((2 ^ r*(2*q+1):Nat):Int),())=some ((r:Int),()):=by
  have hr:r < 64:=bit_lt h (by rw [qgcld]; simp)
  have hp:0 < 2 ^ r*(2*q+1):=Nat.mul_pos (Nat.two_pow_pos r) (by omega)
  unfold qtgi6
  have e0:((((2 ^ r*(2*q+1):Nat):Int),()).1 == (0:Int))=false:=by
    simp only [beq_eq_false_iff_ne]; omega
  have e1:IntKind.u64.wrap (0 - ((2 ^ r*(2*q+1):Nat):Int))=((2 ^ 64 - 2 ^ r*(2*q+1):Nat):Int):=by
    unfold IntKind.wrap; simp only [IntKind.bits,IntKind.signed]
    generalize 2 ^ r*(2*q+1)=v at *
    simp; omega
  simp only [e0,cond_false]
  rw [e1,qs03j h (by omega),q5ej9 h,qvntd,tab0_eq,qrcn6 ⟨r,hr⟩]
  simp only [Option.bind_some]
  rw [wrap64 (by omega) (by omega)]
theorem qswvp {i:Nat} (h:i < 32):qjoy4 ((i:Int),())=some (((2 ^ i:Nat):Int),()):=by
  unfold qjoy4
  have:decide ((i:Int) < 0)=false:=decide_eq_false (by omega)
  simp only [this,cond_false]
  rw [qor9h h]
theorem qpb5o {a:Nat} (i:Nat) (h:a < 2 ^ 32):qp31s ((a:Int),(i:Int),())=some (a.testBit i,()):=by
  unfold qp31s
  have:decide ((i:Int) < 0)=false:=decide_eq_false (by omega)
  simp only [this,cond_false]
  rw [qg1aj i h]
def below (ws:List Nat) (i j:Nat):Bool:=(ws.getD i 0).testBit j
end

section
open Go Go.Abs

abbrev Node:=Int × (Int × ((Int × (Int × (Int × Unit))) × Unit))
abbrev Edge:=Int × (Int × (Int × Unit))
def mayB (v:Node):Bool:=decide (1≤v.2.1∧v.2.1≤4∧1≤v.1∧v.1≤6∧(v.1=1→v.2.1=1)∧(v.1=4→v.2.1≠4)∧(5≤v.1→2≤v.2.1))
def portsB (v:Node):Int:=if v.1=1 then 0 else if v.1=3 then 2 else 1
def outB (v:Node):Int:=if v.1=4 then v.2.1+1 else if v.1=5 then v.2.1 - 1 else v.2.1
theorem qgebe (v:Node):qjx23 (v,())=some (mayB v,()):=by
  obtain ⟨k,d,op,_⟩:=v
  unfold qjx23 mayB
  simp only [q0kjd,qerg8,qlytz]
  repeat' split
  all_goals first
    | (congr 2; symm; apply decide_eq_false; intro h; obtain ⟨h1,h2,h3,h4,h5,h6,h7⟩:=h; omega)
    | (congr 2; symm; apply decide_eq_true; omega)
    | (congr 2; apply decide_eq_decide.2; omega)
theorem q8gtn (v:Node):qj1x5 (v,())=some (mayB v,()):=by
  obtain ⟨k,d,op,_⟩:=v
  have w1:IntKind.i64.wrap ((4:Int) - 1)=3:=by decide
  have w2:IntKind.i64.wrap ((1:Int)+1)=2:=by decide
  unfold qj1x5 mayB
  simp only [w1,w2,q0kjd,qlytz]
  have fin:∀ {p q:Bool},(p=true↔q=true)→some (p,())=some (q,()):=fun h=>by rw [Bool.eq_iff_iff.2 h]
  have hk:k=1∨k=4∨k=5∨k=6∨k=2∨k=3∨(k≠1∧k≠4∧k≠5∧k≠6∧k≠2∧k≠3):=by omega
  rcases hk with rfl | rfl | rfl | rfl | rfl | rfl | ⟨h1,h4,h5,h6,h2,h3⟩
  case inr.inr.inr.inr.inr.inr =>
    simp only [h1,h4,h5,h2,h3,if_false,beq_eq_false_iff_ne.2 h6,Option.bind_some,Sum.elim_inl,cond_false]
    refine fin ?_
    simp
    omega
  all_goals
    simp
    split
    · refine fin ?_; simp; omega
    · refine fin ?_; simp; omega
theorem qb4zj (v:Node):qo2dv (v,())=some (!mayB v,()):=by
  unfold qo2dv; rw [q8gtn]; rfl
theorem qu9ps (v:Node):qzrkd (v,())=some (portsB v,()):=by
  unfold qzrkd portsB
  simp only [q0kjd]
  split
  · rfl
  · split <;> rfl
theorem qo5bc (v:Node):qjg7r (v,())=some (portsB v,()):=by
  unfold qjg7r portsB
  simp only [q0kjd]
  split
  · rfl
  · split <;> rfl
theorem qz3hk {v:Node} (h:mayB v=true):1≤v.2.1∧v.2.1≤4:=by
  have:=of_decide_eq_true h
  exact ⟨this.1,this.2.1⟩
theorem qbeyu {v:Node} (h:mayB v=true):qmmo4 (v,())=some (outB v,()):=by
  have hd:=qz3hk h
  unfold qmmo4 outB
  simp only [q0kjd]
  rw [wrap64 (by omega) (by omega),wrap64 (by omega) (by omega)]
  split
  · rfl
  · split <;> rfl
theorem q7h6t {v:Node} (h:mayB v=true):((q8lmr (v,())).bind fun r=>q9a13 r)=some (outB v,()):=by
  have hd:=qz3hk h
  obtain ⟨k,d,op,u⟩:=v
  simp only at hd
  unfold q8lmr q9a13 outB
  simp only [q0kjd]
  have w:∀ z:Int,-100≤z→z≤100→IntKind.i64.wrap z=z:=fun z h1 h2=>wrap64 (by omega) (by omega)
  by_cases h4:k=4
  · simp only [h4,if_true,Option.bind_some,List.length_cons,List.length_nil]
    rw [w _ (by omega) (by omega)]; rfl
  · by_cases h5:k=5
    · subst h5
      simp only [h4,if_false,if_true,Option.bind_some,List.length_nil]
      rw [w (d - 1) (by omega) (by omega),w _ (by omega) (by omega)]
      simp
    · by_cases h6:k=6
      · subst h6
        simp only [h4,h5,if_false,if_true,Option.bind_some,List.length_nil]
        rw [w _ (by omega) (by omega)]
        simp
      · simp only [h4,h5,h6,if_false,Option.bind_some,List.length_nil]
        rw [w _ (by omega) (by omega)]
        simp
end

section
open Go Go.Abs

theorem q63yh {σ U β:Type} {f:σ→Option (σ ⊕ (U ⊕ β))} (n:Nat) (s:Nat→σ) (g:Nat→Option U) (e:β)
    (h:∀ i,i < n→(∀ j,j < i→g j=none)→f (s i)=some (stepOr (g i) (s (i+1)))) (hend:(∀ j,j < n→g j=none)→f (s n)=some (.inr (.inr e))) :
    loopM f (s 0)=some (exitOr ((List.range n).findSome? g) e):=by
  have key:∀ k i,i+k=n→(∀ j,j < i→g j=none)→loopM f (s i)=some (exitOr ((List.range' i k).findSome? g) e):=by
    intro k
    induction k with
    | zero =>
      intro i hi hn; have:i=n:=by omega
      subst this; rw [q7xfb (hend hn)]; rfl
    | succ k ih =>
      intro i hi hn
      have hs:=h i (by omega) hn
      rw [List.range'_succ,List.findSome?_cons]
      cases hg:g i with
      | some b=>rw [hg] at hs; rw [q7xfb hs]; rfl
      | none =>
        rw [hg] at hs
        rw [q2k3l hs]
        refine ih (i+1) (by omega) fun j hj=>?_
        by_cases hji:j=i
        · rw [hji]; exact hg
        · exact hn j (by omega)
  have:=key n 0 (by omega) (fun j hj=>by omega)
  rw [List.range_eq_range']; exact this
def e0:Edge:=(0,0,0,())
def v0:Node:=(0,0,(0,0,0,()),())
def frE (E:List Edge) (i:Nat):Int:=(E.getD i e0).1
def toE (E:List Edge) (i:Nat):Int:=(E.getD i e0).2.1
def poE (E:List Edge) (i:Nat):Int:=(E.getD i e0).2.2.1
def twiceB (E:List Edge) (i:Nat):Bool:=(List.range i).any fun j=>toE E j == toE E i && poE E j == poE E i
def edgeC (N:List Node) (E:List Edge) (i:Nat):Int :=
  if frE E i < 0∨(N.length:Int)≤frE E i∨toE E i < 0∨(N.length:Int)≤toE E i then 8
  else if poE E i < 0∨portsB (N.getD (toE E i).toNat v0)≤poE E i then 8
  else if twiceB E i=true then 8
  else if outB (N.getD (frE E i).toNat v0)=(N.getD (toE E i).toNat v0).2.1 then 0 else 7
theorem may_at {N:List Node} (hN:N.all mayB=true) {i:Int} (h0:0≤i) (h1:i < N.length):mayB (N.getD i.toNat v0)=true:=by
  have hlt:i.toNat < N.length:=by omega
  rw [List.getD_eq_getElem?_getD,List.getElem?_eq_getElem hlt]
  exact List.all_eq_true.1 hN _ (List.getElem_mem hlt)
theorem qckid (N:List Node) {E:List Edge} (hE:E.length≤20) {i:Nat} (hi:i < E.length) :
    loopM (qsgy9 ((N,E,()),(i:Int),()) (E.getD i e0)) ((0:Int),())=some (if twiceB E i=true then .inl (8,()) else .inr (.inl ())):=by
  have h:=qw17v (f:=qsgy9 ((N,E,()),(i:Int),()) (E.getD i e0)) i (fun j=>((j:Int),())) (fun j=>cond (toE E j == toE E i && poE E j == poE E i) (some (8,())) none) (.inl ()) (fun j hj=>by
    unfold qsgy9
    simp only [dcT (show (j:Int) < (i:Int) by omega),cond_true,getI_D e0 (Int.natCast_nonneg j) (show (j:Int) < (E.length:Int) by omega),Int.toNat_natCast,Option.bind_some]
    rw [wrapS (by omega)]
    show (cond (toE E j == toE E i) _ _)=_
    cases h1:toE E j == toE E i with
    | false=>rfl
    | true =>
      show (cond (poE E j == poE E i) _ _)=_
      cases h2:poE E j == poE E i <;> rfl) (by
    unfold qsgy9
    simp only [dcF (show ¬ (i:Int) < (i:Int) by omega),cond_false]) rfl
  refine Eq.trans h ?_
  have:((List.range i).findSome? fun j=>cond (toE E j == toE E i && poE E j == poE E i) (some ((8:Int),())) none)=if twiceB E i=true then some (8,()) else none:=by
    unfold twiceB
    cases ha:(List.range i).any (fun j=>toE E j == toE E i && poE E j == poE E i) with
    | true =>
      rw [if_pos rfl]
      obtain ⟨j,hj,hb⟩:=List.any_eq_true.1 ha
      cases hf:(List.range i).findSome? fun j=>cond (toE E j == toE E i && poE E j == poE E i) (some ((8:Int),())) none with
      | none =>
        have:=List.findSome?_eq_none_iff.1 hf j hj
        rw [hb] at this; cases this
      | some z =>
        obtain ⟨l1,a,l2,_,h3,_⟩:=List.findSome?_eq_some_iff.1 hf
        cases hq:(toE E a == toE E i && poE E a == poE E i) with
        | true=>rw [hq] at h3; exact h3.symm
        | false=>rw [hq] at h3; cases h3
    | false =>
      rw [if_neg (by simp)]
      refine List.findSome?_eq_none_iff.2 fun j hj=>?_
      have:=List.any_eq_false.1 ha j hj
      cases hq:(toE E j == toE E i && poE E j == poE E i) with
      | true=>exact absurd hq this
      | false=>rfl
  rw [this]
  split <;> rfl
theorem qugmm {N:List Node} {E:List Edge} (hN:N.all mayB=true) (hE:E.length≤20) {i:Nat} (hi:i < E.length):q0xys ((N,E,()),(i:Int),())=some (edgeC N E i,()):=by
  unfold q0xys edgeC
  simp only [getI_D e0 (Int.natCast_nonneg i) (show (i:Int) < (E.length:Int) by omega),Int.toNat_natCast,Option.bind_some]
  show (cond (decide (frE E i < 0)) _ (cond (decide (frE E i ≥ (N.length:Int))) _ (cond (decide (toE E i < 0)) _ (cond (decide (toE E i ≥ (N.length:Int))) _ (cond (decide (poE E i < 0)) _ ((getI N (toE E i)).bind _))))))=_
  by_cases h1:frE E i < 0
  · simp [h1]
  by_cases h2:frE E i ≥ (N.length:Int)
  · simp [h1,h2]
  by_cases h3:toE E i < 0
  · simp [h1,h2,h3]
  by_cases h4:toE E i ≥ (N.length:Int)
  · simp [h1,h2,h3,h4]
  have hno:¬ (frE E i < 0∨(N.length:Int)≤frE E i∨toE E i < 0∨(N.length:Int)≤toE E i):=by omega
  simp only [dcF h1,dcF h2,dcF h3,dcF h4,cond_false,if_neg hno]
  by_cases h5:poE E i < 0
  · simp [h5]
  have hto:=getI_D (l:=N) v0 (Int.not_lt.1 h3) (Int.not_le.1 h4)
  simp only [dcF h5,cond_false,hto,Option.bind_some,qo5bc]
  show (cond (decide (poE E i ≥ portsB (N.getD (toE E i).toNat v0))) _ _)=_
  by_cases h6:poE E i ≥ portsB (N.getD (toE E i).toNat v0)
  · rw [dcT h6,cond_true,if_pos (.inr (by omega))]
  have hno2:¬ (poE E i < 0∨portsB (N.getD (toE E i).toNat v0)≤poE E i):=by omega
  simp only [dcF h6,cond_false,if_neg hno2]
  rw [qckid N hE hi]
  by_cases h7:twiceB E i=true
  · simp [h7]
  simp only [h7,Option.bind_some]
  have hfr:=getI_D (l:=N) v0 (Int.not_lt.1 h1) (Int.not_le.1 h2)
  show ((getI N (frE E i)).bind _)=_
  rw [hfr,Option.bind_some]
  have hout:=q7h6t (may_at hN (Int.not_lt.1 h1) (Int.not_le.1 h2))
  obtain ⟨r,hr,hr2⟩:=Option.bind_eq_some_iff.1 hout
  rw [hr,Option.bind_some,hr2,Option.bind_some]
  show ((getI N (toE E i)).bind _)=_
  rw [hto,Option.bind_some]
  show (cond (outB (N.getD (frE E i).toNat v0) != (N.getD (toE E i).toNat v0).2.1) _ _)=_
  rw [qerg8]
  split <;> rfl
abbrev tkT:Ty:=.cons (.int .i64) (.cons (.int .i64) .nil)
def takenM (E:List Edge):Nat→List ((Int × (Int × Unit)) × Int)
  | 0=>[]
  | i+1=>mapSet tkT (takenM E i) (toE E i,poE E i,()) (i:Int)
theorem qfs3g (E:List Edge) (t p:Int):∀ i,(mapGet tkT (takenM E i) (t,p,())).isSome=(List.range i).any fun j=>toE E j == t && poE E j == p
  | 0=>rfl
  | i+1=>by
    rw [List.range_succ,List.any_append,←qfs3g E t p i]
    simp only [takenM,List.any_cons,List.any_nil,Bool.or_false]
    by_cases h:((t,p,()):tkT.den)=(toE E i,poE E i,())
    · have h1:toE E i=t:=by have:=congrArg (·.1) h; exact this.symm
      have h2:poE E i=p:=by have:=congrArg (·.2.1) h; exact this.symm
      rw [h,qnqze rfl]
      simp [h1,h2]
    · rw [qpgi4 rfl _ _ _ _ h]
      have:(toE E i == t && poE E i == p)=false:=by
        rw [Bool.and_eq_false_iff,beq_eq_false_iff_ne,beq_eq_false_iff_ne]
        by_cases h1:toE E i=t
        · right; intro h2; exact h (by rw [h1,h2])
        · exact .inl h1
      rw [this,Bool.or_false]
def toW (E:List Edge):Nat→Nat→Nat
  | 0,_=>0
  | i+1,a=>if (a:Int)=frE E i then toW E i a ||| 2 ^ (toE E i).toNat else toW E i a
theorem q1ojf (E:List Edge) (a b:Nat):∀ i,(∀ j,j < i→0≤toE E j)→((toW E i a).testBit b=true↔∃ j,j < i∧frE E j=a∧toE E j=b)
  | 0,_=>by simp [toW]
  | i+1,h=>by
    have ih:=q1ojf E a b i (fun j hj=>h j (by omega))
    have hto:=h i (by omega)
    simp only [toW]
    constructor
    · intro hb
      split at hb
      · rename_i hf
        rw [Nat.testBit_or,Bool.or_eq_true] at hb
        rcases hb with hb | hb
        · obtain ⟨j,h1,h2⟩:=ih.1 hb; exact ⟨j,by omega,h2⟩
        · rw [Nat.testBit_two_pow,decide_eq_true_eq] at hb
          exact ⟨i,by omega,hf.symm,by omega⟩
      · obtain ⟨j,h1,h2⟩:=ih.1 hb; exact ⟨j,by omega,h2⟩
    · rintro ⟨j,h1,h2,h3⟩
      by_cases hj:j=i
      · subst hj
        rw [if_pos h2.symm,Nat.testBit_or,Nat.testBit_two_pow,decide_eq_true (by omega:(toE E j).toNat=b),Bool.or_true]
      · have:=ih.2 ⟨j,by omega,h2,h3⟩
        split
        · rw [Nat.testBit_or,this,Bool.true_or]
        · exact this
theorem toW_lt {E:List Edge} {n:Nat} (a:Nat):∀ i,(∀ j,j < i→0≤toE E j∧toE E j < n)→toW E i a < 2 ^ n
  | 0,_=>Nat.two_pow_pos n
  | i+1,h=>by
    have ih:=toW_lt a i (fun j hj=>h j (by omega))
    have hto:=h i (by omega)
    simp only [toW]
    split
    · exact Nat.or_lt_two_pow ih (Nat.pow_lt_pow_right (by decide) (by omega))
    · exact ih
end

section
open Go Go.Abs

theorem q407q {N:List Node} {E:List Edge} {i:Nat} (h:edgeC N E i=0):0≤frE E i∧frE E i < N.length∧0≤toE E i∧toE E i < N.length∧0≤poE E i∧poE E i < portsB (N.getD (toE E i).toNat v0)∧twiceB E i=false ∧
    outB (N.getD (frE E i).toNat v0)=(N.getD (toE E i).toNat v0).2.1:=by
  unfold edgeC at h
  split at h
  · cases h
  · rename_i h1
    split at h
    · cases h
    · rename_i h2
      split at h
      · cases h
      · rename_i h3
        split at h
        · rename_i h4
          exact ⟨by omega,by omega,by omega,by omega,by omega,by omega,by simpa using h3,h4⟩
        · cases h
def edgeG (N:List Node) (E:List Edge) (i:Nat):Option (List Int × (Int × Int × Unit) × List ((Int × (Int × Unit)) × Int) × Unit) :=
  if edgeC N E i=0 then none else some (cl (tab N.length (toW E i)),(edgeC N E i,(i:Int),()),takenM E i,())
theorem q9r32 {N:List Node} {E:List Edge} (hn:N.length≤12) (hN:N.all mayB=true) (hE:E.length≤20) :
    loopM (qzwsa ((N,E,()),())) ((0:Int),cl (tab N.length fun _=>0),((0:Int),(0:Int),()),([]:List ((Int × (Int × Unit)) × Int)),()) =
      some (exitOr ((List.range E.length).findSome? (edgeG N E)) (.inl (cl (tab N.length (toW E E.length)),((0:Int),(0:Int),()),takenM E E.length,()))):=by
  refine q63yh (f:=qzwsa ((N,E,()),())) E.length (fun i=>((i:Int),cl (tab N.length (toW E i)),((0:Int),(0:Int),()),takenM E i,())) (edgeG N E) _ (fun i hi hprev=>?_) (fun _=>?_)
  · have hok:∀ j,j < i→edgeC N E j=0:=fun j hj=>by
      have:=hprev j hj
      unfold edgeG at this
      split at this
      · assumption
      · cases this
    have hw:∀ a,toW E i a < 2 ^ 32:=fun a=>Nat.lt_of_lt_of_le (toW_lt a i fun j hj=>⟨(q407q (hok j hj)).2.2.1,(q407q (hok j hj)).2.2.2.1⟩) (Nat.pow_le_pow_right (by decide) (by omega))
    unfold qzwsa edgeG edgeC
    simp only [dcT (show (i:Int) < (E.length:Int) by omega),cond_true,getI_D e0 (Int.natCast_nonneg i) (show (i:Int) < (E.length:Int) by omega),Int.toNat_natCast,Option.bind_some]
    show (cond (decide ((if toE E i < frE E i then toE E i else frE E i) < 0)) _ (cond (decide ((if toE E i > frE E i then toE E i else frE E i) ≥ (N.length:Int))) _ (cond (decide (poE E i < 0)) _ ((getI N (toE E i)).bind _))))=_
    by_cases h1:(if toE E i < frE E i then toE E i else frE E i) < 0
    · have hy:frE E i < 0∨(N.length:Int)≤frE E i∨toE E i < 0∨(N.length:Int)≤toE E i:=by split at h1 <;> omega
      rw [dcT h1,cond_true,if_pos hy]
      rfl
    by_cases h2:(if toE E i > frE E i then toE E i else frE E i) ≥ (N.length:Int)
    · have hy:frE E i < 0∨(N.length:Int)≤frE E i∨toE E i < 0∨(N.length:Int)≤toE E i:=by split at h2 <;> omega
      rw [dcF h1,cond_false,dcT h2,cond_true,if_pos hy]
      rfl
    have hno:¬ (frE E i < 0∨(N.length:Int)≤frE E i∨toE E i < 0∨(N.length:Int)≤toE E i):=by
      split at h1 <;> split at h2 <;> omega
    have f0:0≤frE E i:=by omega
    have f1:frE E i < N.length:=by omega
    have t0:0≤toE E i:=by omega
    have t1:toE E i < N.length:=by omega
    rw [dcF h1,cond_false,dcF h2,cond_false]
    simp only [if_neg hno]
    by_cases h5:poE E i < 0
    · have hy:poE E i < 0∨portsB (N.getD (toE E i).toNat v0)≤poE E i:=.inl h5
      rw [dcT h5,cond_true]; simp only [if_pos hy]; rfl
    have hto:=getI_D (l:=N) v0 t0 t1
    rw [dcF h5,cond_false,hto,Option.bind_some,qu9ps,Option.bind_some]
    show (cond (decide (poE E i ≥ portsB (N.getD (toE E i).toNat v0))) _ _)=_
    by_cases h6:poE E i ≥ portsB (N.getD (toE E i).toNat v0)
    · have hy:poE E i < 0∨portsB (N.getD (toE E i).toNat v0)≤poE E i:=.inr h6
      rw [dcT h6,cond_true]; simp only [if_pos hy]; rfl
    have hno2:¬ (poE E i < 0∨portsB (N.getD (toE E i).toNat v0)≤poE E i):=by omega
    rw [dcF h6,cond_false]
    simp only [if_neg hno2]
    have htk:(mapGet tkT (takenM E i) (toE E i,poE E i,())).isSome=twiceB E i:=qfs3g E _ _ i
    show (cond (mapGet tkT (takenM E i) (toE E i,poE E i,())).isSome _ _)=_
    rw [htk]
    cases h7:twiceB E i with
    | true=>rfl
    | false =>
      rw [cond_false]
      simp only [if_neg (show ¬ (false=true) by simp)]
      have hfr:=getI_D (l:=N) v0 f0 f1
      show ((getI N (frE E i)).bind _)=_
      rw [hfr,Option.bind_some,qbeyu (may_at hN f0 f1),Option.bind_some]
      show ((getI N (toE E i)).bind _)=_
      rw [hto,Option.bind_some]
      show (cond (outB (N.getD (frE E i).toNat v0) != (N.getD (toE E i).toNat v0).2.1) _ _)=_
      rw [qerg8]
      by_cases h8:outB (N.getD (frE E i).toNat v0)=(N.getD (toE E i).toNat v0).2.1
      · rw [if_pos h8]
        simp only [if_pos h8]
        obtain ⟨a,ha⟩:=Int.eq_ofNat_of_zero_le f0
        obtain ⟨b,hb⟩:=Int.eq_ofNat_of_zero_le t0
        have han:a < N.length:=by omega
        have hbn:b < N.length:=by omega
        have ha':(E.getD i e0).1=(a:Int):=ha
        have hb':(E.getD i e0).2.1=(b:Int):=hb
        have hg:(cl (tab N.length (toW E i)))[a]? = some ((toW E i a:Nat):Int):=by
          rw [get_cl (by rw [qf6uf]; exact han),q1oku han]
        simp only [ha',hb',qoi5c,qf6uf,inB_T han,cond_true,Int.toNat_natCast,hg,Option.bind_some,qswvp (show b < 32 by omega),or_u32 (hw a) (qrg6g (show b < 32 by omega)),cl_set,qq0ob,wrapS (show i < 9223372036854775807 by omega)]
        have ht:(tab N.length fun j=>if j=a then toW E i a ||| 2 ^ b else toW E i j)=tab N.length (toW E (i+1)):=qrnyd fun j hj=>?_
        · rw [ht]
          show some (Sum.inl (((i+1:Nat):Int),cl (tab N.length (toW E (i+1))),((0:Int),(0:Int),()),mapSet tkT (takenM E i) ((b:Int),poE E i,()) (i:Int),()))=some (Sum.inl (((i+1:Nat):Int),cl (tab N.length (toW E (i+1))),((0:Int),(0:Int),()),mapSet tkT (takenM E i) (toE E i,poE E i,()) (i:Int),()))
          rw [hb]
        simp only [toW]
        by_cases hja:j=a
        · subst hja; rw [if_pos rfl,if_pos ha.symm,hb]; rfl
        · rw [if_neg hja,if_neg (by omega)]
      · rw [if_neg h8]
        simp only [if_neg h8]
        rfl
  · unfold qzwsa
    simp only [dcF (show ¬ (E.length:Int) < (E.length:Int) by omega),cond_false]
end

section
open Go Go.Abs

theorem qupn1 (v:Node):portsB v=0∨portsB v=1∨portsB v=2:=by
  unfold portsB
  by_cases h1:v.1=1
  · exact .inl (if_pos h1)
  · rw [if_neg h1]
    by_cases h3:v.1=3
    · exact .inr (.inr (if_pos h3))
    · exact .inr (.inl (if_neg h3))
theorem qjzfq (v:Node):0≤portsB v∧portsB v≤2:=by rcases qupn1 v with h | h | h <;> omega
def hasB (E:List Edge) (t p:Int):Bool:=(List.range E.length).any fun j=>toE E j == t && poE E j == p
def missB (N:List Node) (E:List Edge) (i:Nat):Bool:=(List.range (portsB (N.getD i v0)).toNat).any fun p=>!hasB E i p
theorem qu2n2 (N:List Node) (E:List Edge) (a:List Int) (b:Int × Int × Unit) (i:Nat) (y:Int × Int × Unit) :
    loopM (qxo2r (portsB (N.getD i v0),()) (a,b,takenM E E.length,()) ((i:Int),y,())) ((0:Int),((0:Int),(0:Int),()),())=some (if missB N E i=true then .inl (((5:Int),(i:Int),()),()) else .inr (.inl (((0:Int),(0:Int),()),()))):=by
  have hp:0≤portsB (N.getD i v0)∧portsB (N.getD i v0)≤2:=qjzfq _
  have h:=qw17v (f:=qxo2r (portsB (N.getD i v0),()) (a,b,takenM E E.length,()) ((i:Int),y,())) (portsB (N.getD i v0)).toNat (fun p=>((p:Int),((0:Int),(0:Int),()),())) (fun p=>cond (!hasB E i p) (some (((5:Int),(i:Int),()),())) none) (.inl (((0:Int),(0:Int),()),())) (fun p hpl=>by
    unfold qxo2r
    simp only [dcT (show (p:Int) < portsB (N.getD i v0) by omega),cond_true]
    rw [wrapS (by omega)]
    have ht:(mapGet tkT (takenM E E.length) ((i:Int),(p:Int),())).isSome=hasB E i p:=qfs3g E _ _ _
    show (cond (!(mapGet tkT (takenM E E.length) ((i:Int),(p:Int),())).isSome) _ _)=_
    rw [ht]
    cases hasB E i p <;> rfl) (by
    unfold qxo2r
    simp only [dcF (show ¬ ((portsB (N.getD i v0)).toNat:Int) < portsB (N.getD i v0) by omega),cond_false]) rfl
  refine Eq.trans h ?_
  rw [qzvyn]
  show some (exitOr (if missB N E i=true then _ else _) _)=_
  split <;> rfl
theorem qcw8o {N:List Node} (E:List Edge) (hn:N.length≤12) (a:List Int) (b:Int × Int × Unit) :
    loopM (qz1lr ((N,E,()),()) (a,b,takenM E E.length,())) ((0:Int),((0:Int),(0:Int),()),())=some (exitOr ((List.range N.length).findSome? fun i=>cond (missB N E i) (some (((5:Int),(i:Int),()),())) none) (.inl (((0:Int),(0:Int),()),()))):=by
  refine qw17v (f:=qz1lr ((N,E,()),()) (a,b,takenM E E.length,())) N.length (fun i=>((i:Int),((0:Int),(0:Int),()),())) (fun i=>cond (missB N E i) (some (((5:Int),(i:Int),()),())) none) _ (fun i hi=>?_) ?_ rfl
  · unfold qz1lr
    simp only [dcT (show (i:Int) < (N.length:Int) by omega),cond_true,getI_D v0 (Int.natCast_nonneg i) (show (i:Int) < (N.length:Int) by omega),Int.toNat_natCast,Option.bind_some,qu9ps,qu2n2]
    rw [wrapS (by omega)]
    cases missB N E i <;> rfl
  · unfold qz1lr
    simp only [dcF (show ¬ (N.length:Int) < (N.length:Int) by omega),cond_false]
theorem qtbf4 {p:Nat→Bool}:∀ (m:Nat),(∀ j k,j < m→k < m→p j=true→p k=true→j=k)→cntB m p=if (List.range m).any p=true then 1 else 0
  | 0,_=>rfl
  | m+1,h=>by
    have ih:=qtbf4 m (fun j k hj hk=>h j k (by omega) (by omega))
    rw [List.range_succ,List.any_append]
    simp only [cntB,ih,List.any_cons,List.any_nil,Bool.or_false]
    cases hpm:p m with
    | false=>simp
    | true =>
      have hno:(List.range m).any p=false:=by
        rw [List.any_eq_false]
        intro j hj hpj
        have:=h j m (by have:=List.mem_range.1 hj; omega) (by omega) hpj hpm
        have:=List.mem_range.1 hj
        omega
      rw [hno]; simp
theorem q9i9j {p q r:Nat→Bool}:∀ (m:Nat),(∀ j,j < m→p j=(q j || r j)∧(q j && r j)=false)→cntB m p=cntB m q+cntB m r
  | 0,_=>rfl
  | m+1,h=>by
    have ih:=q9i9j m (fun j hj=>h j (by omega))
    obtain ⟨h1,h2⟩:=h m (by omega)
    simp only [cntB,ih,h1]
    cases hq:q m <;> cases hr:r m <;> rw [hq,hr] at h2 <;> simp at h2 ⊢ <;> omega
theorem q89hb {N:List Node} {E:List Edge} (hok:∀ j,j < E.length→edgeC N E j=0) (i:Nat) :
    decide (((cntB E.length fun j=>toE E j == (i:Int):Nat):Int) < portsB (N.getD i v0))=missB N E i:=by
  have hval:∀ j,j < E.length→toE E j=i→0≤poE E j∧poE E j < portsB (N.getD i v0):=fun j hj ht=>by
    have h:=q407q (hok j hj)
    rw [ht,Int.toNat_natCast] at h
    exact ⟨h.2.2.2.2.1,h.2.2.2.2.2.1⟩
  have huniq:∀ t p:Int,∀ j k,j < E.length→k < E.length→(toE E j == t && poE E j == p)=true→(toE E k == t && poE E k == p)=true→j=k:=fun t p j k hj hk h1 h2=>by
    simp only [Bool.and_eq_true,beq_iff_eq] at h1 h2
    have key:∀ j k,j < k→k < E.length→toE E j=toE E k→poE E j=poE E k→False:=fun j k hjk hk ht hp=>by
      have h:=(q407q (hok k hk)).2.2.2.2.2.2.1
      unfold twiceB at h
      have:=List.any_eq_false.1 h j (List.mem_range.2 hjk)
      simp [ht,hp] at this
    rcases Nat.lt_trichotomy j k with h | h | h
    · exact (key j k h hk (h1.1.trans h2.1.symm) (h1.2.trans h2.2.symm)).elim
    · exact h
    · exact (key k j h hj (h2.1.trans h1.1.symm) (h2.2.trans h1.2.symm)).elim
  have hc:∀ p:Int,cntB E.length (fun j=>toE E j == (i:Int) && poE E j == p)=if hasB E i p=true then 1 else 0:=fun p=>qtbf4 _ (huniq i p)
  have hp:portsB (N.getD i v0)=0∨portsB (N.getD i v0)=1∨portsB (N.getD i v0)=2:=qupn1 _
  unfold missB
  rcases hp with hp | hp | hp
  · rw [hp]
    simp
  · rw [hp] at hval ⊢
    have:cntB E.length (fun j=>toE E j == (i:Int))=cntB E.length fun j=>toE E j == (i:Int) && poE E j == 0:=by
      refine q4lst fun j hj=>?_
      by_cases ht:toE E j=i
      · have:=hval j hj ht
        have:poE E j=0:=by omega
        simp [ht,this]
      · simp [ht]
    rw [this,hc 0]
    have e1:(List.range (1:Int).toNat).any (fun p:Nat=>!hasB E i p)=!hasB E i 0:=by
      show (List.range 1).any _=_
      simp [List.range_succ]
    rw [e1]
    cases hasB E i 0 <;> simp
  · rw [hp] at hval ⊢
    have:cntB E.length (fun j=>toE E j == (i:Int))=cntB E.length (fun j=>toE E j == (i:Int) && poE E j == 0)+cntB E.length fun j=>toE E j == (i:Int) && poE E j == 1:=by
      refine q9i9j _ fun j hj=>?_
      by_cases ht:toE E j=i
      · have:=hval j hj ht
        have:poE E j=0∨poE E j=1:=by omega
        rcases this with h | h <;> simp [ht,h]
      · have:(toE E j == (i:Int))=false:=by simpa using ht
        simp [this]
    rw [this,hc 0,hc 1]
    have e2:(List.range (2:Int).toNat).any (fun p:Nat=>!hasB E i p)=(!hasB E i 0 || !hasB E i 1):=by
      show (List.range 2).any _=_
      simp [List.range_succ]
    rw [e2]
    cases hasB E i 0 <;> cases hasB E i 1 <;> simp
end

section
open Go Go.Abs

def stepA (T:Nat→Nat) (w:Nat) (a b:Nat):Bool:=(T a).testBit b && w.testBit b
def unN (T:Nat→Nat) (w v:Nat):Nat→Nat
  | 0=>0
  | r+1=>if v.testBit r=true then unN T w v r ||| (T r &&& w) else unN T w v r
theorem q59n9 (T:Nat→Nat) (w v b:Nat):∀ r,(unN T w v r).testBit b=true↔∃ j,j < r∧v.testBit j=true∧stepA T w j b=true
  | 0=>by simp [unN]
  | r+1=>by
    have ih:=q59n9 T w v b r
    simp only [unN]
    constructor
    · intro h
      split at h
      · rename_i hv
        rw [Nat.testBit_or,Bool.or_eq_true,Nat.testBit_and] at h
        rcases h with h | h
        · obtain ⟨j,h1,h2⟩:=ih.1 h; exact ⟨j,by omega,h2⟩
        · exact ⟨r,by omega,hv,h⟩
      · obtain ⟨j,h1,h2⟩:=ih.1 h; exact ⟨j,by omega,h2⟩
    · rintro ⟨j,h1,h2,h3⟩
      by_cases hj:j=r
      · subst hj
        rw [if_pos h2,Nat.testBit_or,Nat.testBit_and,Bool.or_eq_true]; exact .inr h3
      · have:=ih.2 ⟨j,by omega,h2,h3⟩
        split
        · rw [Nat.testBit_or,this,Bool.true_or]
        · exact this
theorem unN_lt {T:Nat→Nat} {w v n:Nat} (hw:w < 2 ^ n):∀ r,unN T w v r < 2 ^ n
  | 0=>Nat.two_pow_pos n
  | r+1=>by
    simp only [unN]
    split
    · exact Nat.or_lt_two_pow (unN_lt hw r) (Nat.lt_of_le_of_lt Nat.and_le_right hw)
    · exact unN_lt hw r
theorem lt32 {n a:Nat} (hn:n≤12) (h:a < 2 ^ n):a < 2 ^ 32:=Nat.lt_of_lt_of_le h (Nat.pow_le_pow_right (by decide) (by omega))
theorem qo0cu {n:Nat} (hn:n≤12) {T:Nat→Nat} (hT:∀ a,T a < 2 ^ n) {w v:Nat} (hw:w < 2 ^ n) (hv:v < 2 ^ n) (b:Int × Int × Unit) :
    loopM (qf2yw (b,cl (tab n T),()) (((w:Int),()),())) ((v:Int),((0:Int),()),())=some (.inl ((((unN T w v n:Nat):Int),()),())):=by
  refine qgfp6 (f:=qf2yw (b,cl (tab n T),()) (((w:Int),()),())) n (fun r=>((((unN T w v r:Nat):Int),()),())) _ hv (by omega) (fun r q hq hb hr=>?_) (fun r hr hb=>?_) ?_
  · unfold qf2yw
    simp only [nz_eq r q,cond_true,tz_eq hq,Option.bind_some,qoi5c,qf6uf,inB_T hr,Int.toNat_natCast]
    rw [get_cl (by rw [qf6uf]; exact hr),q1oku hr,Option.bind_some,clr_eq hq,qnr38 (lt32 hn (hT r)) (lt32 hn hw),or_u32 (lt32 hn (unN_lt hw r)) (lt32 hn (Nat.lt_of_le_of_lt Nat.and_le_right hw))]
    simp only [unN,if_pos hb]
  · simp only [unN,hb]; simp
  · unfold qf2yw
    rfl
theorem qcd5n {p q:Nat→Bool}:∀ (m:Nat),(∀ j,j < m→p j=true→q j=true)→cntB m p≤cntB m q
  | 0,_=>Nat.le_refl _
  | m+1,h=>by
    have ih:=qcd5n m (fun j hj=>h j (by omega))
    have:=h m (by omega)
    simp only [cntB]
    cases hp:p m <;> cases hq:q m <;> simp <;> first | omega | (rw [this hp] at hq; cases hq)
theorem q5zs0 {p q:Nat→Bool}:∀ (m:Nat),(∀ j,j < m→p j=true→q j=true)→(∃ j,j < m∧p j=false∧q j=true)→cntB m p < cntB m q
  | 0,_,⟨_,h,_⟩=>by omega
  | m+1,h,⟨j,hj,h1,h2⟩=>by
    have hm:=qcd5n m (fun j hj=>h j (by omega))
    have:=h m (by omega)
    simp only [cntB]
    by_cases hjm:j=m
    · subst hjm; rw [h1,h2]; simp; omega
    · have:=q5zs0 m (fun j hj=>h j (by omega)) ⟨j,by omega,h1,h2⟩
      cases hp:p m <;> cases hq:q m <;> simp <;> first | omega | (rw [h m (by omega) hp] at hq; cases hq)
noncomputable def behB (T:Nat→Nat) (w n i:Nat):Nat:=wordOf n fun j=>@decide (Way (stepA T w) i j) (Classical.propDecidable _)
theorem qx714 (T:Nat→Nat) (w n i:Nat):behB T w n i < 2 ^ n:=qu16d n _
theorem qppdp {T:Nat→Nat} {w n i j:Nat} (hw:w < 2 ^ n):(behB T w n i).testBit j=true↔Way (stepA T w) i j:=by
  unfold behB
  rw [qbx09,Bool.and_eq_true,decide_eq_true_eq]
  refine ⟨fun h=>@of_decide_eq_true _ (Classical.propDecidable _) h.2,fun h=>⟨?_,@decide_eq_true _ (Classical.propDecidable _) h⟩⟩
  cases h with
  | one h=>exact bit_lt hw (Bool.and_eq_true_iff.1 h).2
  | more _ h=>exact bit_lt hw (Bool.and_eq_true_iff.1 h).2
theorem q52cy {n:Nat} (hn:n≤12) {T:Nat→Nat} (hT:∀ a,T a < 2 ^ n) {w:Nat} (hw:w < 2 ^ n) (b:Int × Int × Unit) (i:Nat):∀ (k all next:Nat),all < 2 ^ n→next < 2 ^ n→n≤cntB n (fun j=>all.testBit j)+k →
    (∀ j,all.testBit j=true∨next.testBit j=true→Way (stepA T w) i j)→(∀ j,stepA T w i j=true→all.testBit j=true∨next.testBit j=true) →
    (∀ a j,all.testBit a=true→stepA T w a j=true→all.testBit j=true∨next.testBit j=true)→(∀ j,next.testBit j=true→all.testBit j=false) →
    loopM (q3p1d (b,cl (tab n T),()) (((w:Int),()),())) ((all:Int),(next:Int),())=some (.inl (((behB T w n i:Nat):Int),())):=by
  intro k
  induction k with
  | zero =>
    intro all next ha hx hk h1 h2 h3 h4
    have hz:next=0:=by
      refine qu2ly (k:=n) hx (Nat.two_pow_pos n) fun j hj=>?_
      rw [Nat.zero_testBit]
      cases hb:next.testBit j with
      | false=>rfl
      | true =>
        exfalso
        have h5:=h4 j hb
        have h6:=q5zs0 (p:=fun j=>all.testBit j) (q:=fun _=>true) n (fun _ _ _=>rfl) ⟨j,hj,h5,rfl⟩
        have h7:=qvgz1 (fun _=>true) n
        omega
    subst hz
    refine q7xfb ?_
    unfold q3p1d
    show some (Sum.inr (Sum.inl ((all:Int),())))=_
    have:all=behB T w n i:=by
      refine qu2ly (k:=n) ha (qx714 T w n i) fun j hj=>?_
      rw [Bool.eq_iff_iff,qppdp hw]
      refine ⟨fun h=>h1 j (.inl h),fun h=>?_⟩
      induction h with
      | one h=>exact (h2 _ h).resolve_right (by simp)
      | more _ h ih =>
        have hlt:∀ {c d},stepA T w c d=true→d < n:=fun h=>bit_lt hw (Bool.and_eq_true_iff.1 h).2
        rename_i c d hcd
        have hc:c < n:=by
          cases hcd with
          | one h=>exact hlt h
          | more _ h=>exact hlt h
        exact (h3 _ _ (ih hc) h).resolve_right (by simp)
    rw [this]
  | succ k ih =>
    intro all next ha hx hk h1 h2 h3 h4
    by_cases hz:next=0
    · subst hz
      refine q7xfb ?_
      unfold q3p1d
      show some (Sum.inr (Sum.inl ((all:Int),())))=_
      have:all=behB T w n i:=by
        refine qu2ly (k:=n) ha (qx714 T w n i) fun j hj=>?_
        rw [Bool.eq_iff_iff,qppdp hw]
        refine ⟨fun h=>h1 j (.inl h),fun h=>?_⟩
        induction h with
        | one h=>exact (h2 _ h).resolve_right (by simp)
        | more _ h ih =>
          have hlt:∀ {c d},stepA T w c d=true→d < n:=fun h=>bit_lt hw (Bool.and_eq_true_iff.1 h).2
          rename_i c d hcd
          have hc:c < n:=by
            cases hcd with
            | one h=>exact hlt h
            | more _ h=>exact hlt h
          exact (h3 _ _ (ih hc) h).resolve_right (by simp)
      rw [this]
    · have hor:all ||| next < 2 ^ n:=Nat.or_lt_two_pow ha hx
      have hun:=unN_lt (T:=T) (v:=next) hw n
      have hstep:q3p1d (b,cl (tab n T),()) (((w:Int),()),()) ((all:Int),(next:Int),())=some (.inl (((all ||| next:Nat):Int),((dif (unN T w next n) (all ||| next):Nat):Int),())):=by
        unfold q3p1d
        have hne:((next:Int) != 0)=true:=by rw [bne_iff_ne]; omega
        simp only [hne,cond_true,q69u7 (lt_64 (lt32 hn hx)),qo0cu hn hT hw hx,Option.bind_some,Sum.elim_inl]
        rw [or_u32 (lt32 hn ha) (lt32 hn hx),qc3te (lt32 hn hun) (lt32 hn hor)]
      rw [q2k3l hstep]
      have hob:∀ j,(all ||| next).testBit j=true↔all.testBit j=true∨next.testBit j=true:=fun j=>by rw [Nat.testBit_or,Bool.or_eq_true]
      have hun':∀ j,(unN T w next n).testBit j=true↔∃ a,next.testBit a=true∧stepA T w a j=true:=fun j=>by
        rw [q59n9]
        exact ⟨fun ⟨a,_,h⟩=>⟨a,h⟩,fun ⟨a,h⟩=>⟨a,bit_lt hx h.1,h⟩⟩
      have hd:∀ j,(dif (unN T w next n) (all ||| next)).testBit j=true↔(unN T w next n).testBit j=true∧(all ||| next).testBit j=false:=fun j=>by rw [q6pa8,Bool.and_eq_true,Bool.not_eq_true']
      refine ih (all ||| next) _ hor (dif_lt hun) ?_ (fun j hj=>?_) (fun j hj=>?_) (fun a j haa hs=>?_) (fun j hj=>((hd j).1 hj).2)
      · obtain ⟨j,hj⟩:=Nat.exists_testBit_of_ne_zero hz
        have:=q5zs0 (p:=fun j=>all.testBit j) (q:=fun j=>(all ||| next).testBit j) n (fun j _ h=>(hob j).2 (.inl h)) ⟨j,bit_lt hx hj,h4 j hj,(hob j).2 (.inr hj)⟩
        omega
      · rcases hj with hj | hj
        · exact h1 j ((hob j).1 hj)
        · obtain ⟨a,ha1,ha2⟩:=(hun' j).1 ((hd j).1 hj).1
          exact .more (h1 a (.inr ha1)) ha2
      · exact .inl ((hob j).2 (h2 j hj))
      · rcases (hob a).1 haa with haa | haa
        · exact .inl ((hob j).2 (h3 a j haa hs))
        · cases hq:(all ||| next).testBit j with
          | true=>exact .inl rfl
          | false=>exact .inr ((hd j).2 ⟨(hun' j).2 ⟨a,haa,hs⟩,hq⟩)
theorem q6k77 {n:Nat} (hn:n≤12) {T:Nat→Nat} (hT:∀ a,T a < 2 ^ n) {w:Nat} (hw:w < 2 ^ n) (b:Int × Int × Unit) (i:Nat) :
    loopM (q3p1d (b,cl (tab n T),()) (((w:Int),()),())) ((0:Int),((T i &&& w:Nat):Int),())=some (.inl (((behB T w n i:Nat):Int),())):=by
  have hx:T i &&& w < 2 ^ n:=Nat.lt_of_le_of_lt Nat.and_le_right hw
  refine q52cy hn hT hw b i n 0 (T i &&& w) (Nat.two_pow_pos n) hx (by omega) (fun j hj=>?_) (fun j hj=>?_) (fun a j ha=>by simp at ha) (fun j _=>Nat.zero_testBit j)
  · rcases hj with hj | hj
    · simp at hj
    · rw [Nat.testBit_and] at hj; exact .one hj
  · exact .inr (by rw [Nat.testBit_and]; exact hj)
theorem l9_eq:qzh7z=q3p1d:=rfl
end

section
open Go Go.Abs

def addN (p:Nat→Bool) (v b0:Nat):Nat→Nat
  | 0=>b0
  | r+1=>if v.testBit r=true∧p r=true then addN p v b0 r ||| 2 ^ r else addN p v b0 r
theorem qzvp5 {p:Nat→Bool} {v b0 n:Nat} (h0:b0 < 2 ^ n):∀ r,r≤n→addN p v b0 r < 2 ^ n
  | 0,_=>h0
  | r+1,hr=>by
    simp only [addN]
    split
    · exact Nat.or_lt_two_pow (qzvp5 h0 r (by omega)) (Nat.pow_lt_pow_right (by decide) (by omega))
    · exact qzvp5 h0 r (by omega)
theorem qgneq {p:Nat→Bool} {v b0 j:Nat}:∀ r,(addN p v b0 r).testBit j=true↔b0.testBit j=true∨(j < r∧v.testBit j=true∧p j=true)
  | 0=>by simp [addN]
  | r+1=>by
    have ih:=qgneq (p:=p) (v:=v) (b0:=b0) (j:=j) r
    simp only [addN]
    by_cases h:v.testBit r=true∧p r=true
    · rw [if_pos h,Nat.testBit_or,Bool.or_eq_true,ih,Nat.testBit_two_pow,decide_eq_true_eq]
      constructor
      · rintro ((h1 | ⟨h1,h2⟩) | rfl)
        · exact .inl h1
        · exact .inr ⟨by omega,h2⟩
        · exact .inr ⟨by omega,h⟩
      · rintro (h1 | ⟨h1,h2⟩)
        · exact .inl (.inl h1)
        · by_cases hj:r=j
          · exact .inr hj
          · exact .inl (.inr ⟨by omega,h2⟩)
    · rw [if_neg h,ih]
      constructor
      · rintro (h1 | ⟨h1,h2⟩)
        · exact .inl h1
        · exact .inr ⟨by omega,h2⟩
      · rintro (h1 | ⟨h1,h2⟩)
        · exact .inl h1
        · refine .inr ⟨?_,h2⟩
          have:j≠r:=fun e=>h (e ▸ h2)
          omega
section
variable {n:Nat} {T:Nat→Nat}
theorem qys8r (hn:n≤12) (hT:∀ a,T a < 2 ^ n) {w:Nat} (hw:w < 2 ^ n) (b:Int × Int × Unit) {i v b0:Nat} (hv:v < 2 ^ n) (hb0:b0 < 2 ^ n) :
    loopM (qtcsz (b,cl (tab n T),()) (((w:Int),()),()) ((i:Int),())) ((v:Int),((b0:Int),()),())=some (.inl ((((addN (fun j=>(behB T w n j).testBit i) v b0 n:Nat):Int),()),())):=by
  refine qgfp6 (f:=qtcsz (b,cl (tab n T),()) (((w:Int),()),()) ((i:Int),())) n (fun r=>((((addN (fun j=>(behB T w n j).testBit i) v b0 r:Nat):Int),()),())) _ hv (by omega) (fun r q hq hb hr=>?_) (fun r hr hb=>?_) ?_
  · unfold qtcsz
    simp only [nz_eq r q,cond_true,tz_eq hq,Option.bind_some,qoi5c,qf6uf,inB_T hr,Int.toNat_natCast]
    rw [get_cl (by rw [qf6uf]; exact hr),q1oku hr,Option.bind_some,qnr38 (lt32 hn (hT r)) (lt32 hn hw),l9_eq,q6k77 hn hT hw,Option.bind_some,Sum.elim_inl,qpb5o i (lt32 hn (qx714 T w n r)),Option.bind_some]
    simp only [clr_eq hq,addN,hb,true_and]
    cases hh:(behB T w n r).testBit i with
    | false=>simp
    | true =>
      simp only [cond_true,qswvp (show r < 32 by omega),Option.bind_some,if_true]
      rw [or_u32 (lt32 hn (qzvp5 hb0 r (by omega))) (qrg6g (by omega))]
  · simp [addN,hb]
  · unfold qtcsz
    rfl
noncomputable def ringN (T:Nat→Nat) (w n:Nat) (D:Nat→Bool) (b0:Nat):Nat→Nat
  | 0=>b0
  | i+1=>if w.testBit i=true∧D i=true then addN (fun j=>(behB T w n j).testBit i) (behB T w n i) (ringN T w n D b0 i) n else ringN T w n D b0 i
theorem q7zzf {w:Nat} {D:Nat→Bool} {b0:Nat} (h0:b0 < 2 ^ n):∀ i,ringN T w n D b0 i < 2 ^ n
  | 0=>h0
  | i+1=>by
    simp only [ringN]
    split
    · exact qzvp5 (q7zzf h0 i) n (Nat.le_refl _)
    · exact q7zzf h0 i
theorem q9ww1 {w:Nat} {D:Nat→Bool} {b0 j:Nat} (hw:w < 2 ^ n):∀ m,(ringN T w n D b0 m).testBit j=true↔b0.testBit j=true∨∃ i,i < m∧w.testBit i=true∧D i=true∧Way (stepA T w) i j∧Way (stepA T w) j i
  | 0=>by simp [ringN]
  | i+1=>by
    have ih:=q9ww1 (D:=D) (b0:=b0) (j:=j) hw i
    simp only [ringN]
    by_cases h:w.testBit i=true∧D i=true
    · rw [if_pos h,qgneq,ih,qppdp hw,qppdp hw]
      constructor
      · rintro ((h1 | ⟨a,h1,h2⟩) | ⟨h1,h2,h3⟩)
        · exact .inl h1
        · exact .inr ⟨a,by omega,h2⟩
        · exact .inr ⟨i,by omega,h.1,h.2,h2,h3⟩
      · rintro (h1 | ⟨a,h1,h2,h3,h4,h5⟩)
        · exact .inl (.inl h1)
        · by_cases ha:a=i
          · subst ha
            exact .inr ⟨bit_lt (qx714 T w n a) ((qppdp hw).2 h4),h4,h5⟩
          · exact .inl (.inr ⟨a,by omega,h2,h3,h4,h5⟩)
    · rw [if_neg h,ih]
      constructor
      · rintro (h1 | ⟨a,h1,h2⟩)
        · exact .inl h1
        · exact .inr ⟨a,by omega,h2⟩
      · rintro (h1 | ⟨a,h1,h2,h3,h4⟩)
        · exact .inl h1
        · have:a≠i:=fun e=>h (e ▸ ⟨h2,h3⟩)
          exact .inr ⟨a,by omega,h2,h3,h4⟩
end
def deepAt (N:List Node) (i:Nat):Int:=(N.getD i v0).2.1
def kindAt (N:List Node) (i:Nat):Int:=(N.getD i v0).1
theorem qjbun {N:List Node} (E:List Edge) (hn:N.length≤12) {T:Nat→Nat} (hT:∀ a,T a < 2 ^ N.length) {w:Nat} (hw:w < 2 ^ N.length) (b:Int × Int × Unit) (f:Int) (y:(Int × Unit) × Unit) {b0:Nat} (hb0:b0 < 2 ^ N.length) :
    loopM (qj1xt ((N,E,()),()) ((f,()),y) (b,cl (tab N.length T),()) (((w:Int),()),())) ((w:Int),((b0:Int),()),())=some (.inl ((((ringN T w N.length (fun i=>deepAt N i == f) b0 N.length:Nat):Int),()),())):=by
  refine qgfp6 (f:=qj1xt ((N,E,()),()) ((f,()),y) (b,cl (tab N.length T),()) (((w:Int),()),())) N.length (fun r=>((((ringN T w N.length (fun i=>deepAt N i == f) b0 r:Nat):Int),()),())) _ hw (by omega) (fun r q hq hb hr=>?_) (fun r hr hb=>?_) ?_
  · unfold qj1xt
    simp only [nz_eq r q,cond_true,tz_eq hq,Option.bind_some,getI_D v0 (Int.natCast_nonneg r) (show (r:Int) < (N.length:Int) by omega),Int.toNat_natCast]
    show (cond (deepAt N r != f) _ _)=_
    rw [qerg8]
    by_cases hd:deepAt N r=f
    · rw [if_pos hd]
      simp only [qoi5c,qf6uf,inB_T hr,cond_true]
      have hbl:=qx714 T w N.length r
      rw [get_cl (by rw [qf6uf]; exact hr),q1oku hr,Option.bind_some,qnr38 (lt32 hn (hT r)) (lt32 hn hw),q6k77 hn hT hw,Option.bind_some,Sum.elim_inl,q69u7 (lt_64 (lt32 hn hbl)),qys8r hn hT hw b hbl (q7zzf hb0 r),Option.bind_some,Sum.elim_inl,Option.bind_some,Sum.elim_inl,clr_eq hq]
      simp [ringN,hb,hd]
    · rw [if_neg hd,clr_eq hq]
      simp [ringN,hb,hd]
  · simp [ringN,hb]
  · unfold qj1xt
    rfl
def insB (N:List Node) (f:Nat) (i:Nat):Bool:=decide ((f:Int) < deepAt N i) || (deepAt N i == (f:Int) && kindAt N i != 6)
def insW (N:List Node) (f:Nat):Nat:=wordOf N.length (insB N f)
theorem qx7mg {N:List Node} (E:List Edge) (hn:N.length≤12) (f:Nat) (y:(Int × Unit) × Unit) :
    loopM (qpwgl ((N,E,()),()) (((f:Int),()),y)) ((0:Int),((0:Int),()),())=some (.inl ((((insW N f:Nat):Int),()),())):=by
  refine q9h1y N.length (fun i=>((i:Int),((((wordOf i (insB N f):Nat):Int)),()),())) _ (fun i hi=>?_) ?_ rfl
  · unfold qpwgl
    have hw:wordOf i (insB N f) < 2 ^ 32:=q5tkd _ (by omega)
    simp only [dcT (show (i:Int) < (N.length:Int) by omega),cond_true,getI_D v0 (Int.natCast_nonneg i) (show (i:Int) < (N.length:Int) by omega),Int.toNat_natCast,Option.bind_some,qswvp (show i < 32 by omega),or_u32 hw (qrg6g (show i < 32 by omega)),wrapS (show i < 9223372036854775807 by omega),qiqeh]
    show (cond (decide (deepAt N i > (f:Int))) _ (cond (deepAt N i == (f:Int)) (cond (kindAt N i != 6) _ _) _))=_
    have hins:insB N f i=(decide (deepAt N i > (f:Int)) || (deepAt N i == (f:Int) && kindAt N i != 6)):=rfl
    rw [hins]
    cases decide (deepAt N i > (f:Int)) <;> cases deepAt N i == (f:Int) <;> cases kindAt N i != 6 <;> rfl
  · unfold qpwgl
    simp only [dcF (show ¬ (N.length:Int) < (N.length:Int) by omega),cond_false]
    rfl
noncomputable def badN (N:List Node) (T:Nat→Nat):Nat→Nat
  | 0=>0
  | f+1=>ringN T (insW N (f+1)) N.length (fun i=>deepAt N i == ((f+1:Nat):Int)) (badN N T f) N.length
theorem q0oht (N:List Node) (f:Nat):insW N f < 2 ^ N.length:=qu16d _ _
theorem q4rwh (N:List Node) (T:Nat→Nat):∀ f,badN N T f < 2 ^ N.length
  | 0=>Nat.two_pow_pos _
  | f+1=>q7zzf (q4rwh N T f) _
theorem qpqce (N:List Node) (T:Nat→Nat) (j:Nat):∀ m,(badN N T m).testBit j=true↔∃ f i,1≤f∧f≤m∧i < N.length∧(insW N f).testBit i=true∧deepAt N i=(f:Int)∧Way (stepA T (insW N f)) i j∧Way (stepA T (insW N f)) j i
  | 0=>by simp [badN]; intro f h; omega
  | m+1=>by
    simp only [badN]
    rw [q9ww1 (q0oht N (m+1)),qpqce N T j m]
    constructor
    · rintro (⟨f,i,h1,h2,h⟩ | ⟨i,h1,h2,h3,h⟩)
      · exact ⟨f,i,h1,by omega,h⟩
      · exact ⟨m+1,i,by omega,by omega,h1,h2,by simpa using h3,h⟩
    · rintro ⟨f,i,h1,h2,h3,h4,h5,h⟩
      by_cases hf:f=m+1
      · subst hf; exact .inr ⟨i,h3,h4,by simpa using h5,h⟩
      · exact .inl ⟨f,i,h1,by omega,h3,h4,h5,h⟩
theorem qo23l {N:List Node} (E:List Edge) (hn:N.length≤12) {T:Nat→Nat} (hT:∀ a,T a < 2 ^ N.length) (b:Int × Int × Unit) :
    loopM (q7yii ((N,E,()),()) (b,cl (tab N.length T),())) (((1:Int),()),((0:Int),()),())=some (.inl ((((badN N T 4:Nat):Int),()),())):=by
  refine q9h1y 4 (fun f=>((((f+1:Nat):Int),()),((((badN N T f:Nat):Int)),()),())) _ (fun f hf=>?_) ?_ rfl
  · unfold q7yii
    simp only [dcT (show ((f+1:Nat):Int)≤4 by omega),cond_true,qx7mg E hn (f+1),Option.bind_some,Sum.elim_inl,q69u7 (lt_64 (lt32 hn (q0oht N (f+1))))]
    rw [qjbun E hn hT (q0oht N (f+1)) b _ _ (q4rwh N T f),Option.bind_some,Sum.elim_inl,Option.bind_some,Sum.elim_inl,wrapS (by omega)]
    rfl
  · unfold q7yii
    rfl
theorem q2usj {n:Nat} (hn:n≤12) {v:Nat} (hv:v < 2 ^ n):loopM qxu0c ((v:Int),((0:Int),()),())=some (((List.range n).findSome? fun j=>if v.testBit j=true then some (Sum.inl (((j:Int),()),())) else none).getD (.inr (.inl (((0:Int),()),())))):=by
  refine qccyx (f:=qxu0c) n (fun _=>(((0:Int),()),())) (fun j=>some (Sum.inl (((j:Int),()),()))) _ hv (by omega) (fun r q hq hb hr=>?_) (fun _ _ _=>rfl) ?_
  · unfold qxu0c
    simp only [nz_eq r q,cond_true,tz_eq hq,Option.bind_some]
  · unfold qxu0c
    rfl
end

section
open Go Go.Abs

def edM (N:List Node) (E:List Edge) (f k:Nat) (a b:Nat):Bool:=insB N f a && insB N f b && (List.range k).any fun j=>frE E j == (a:Int) && toE E j == (b:Int)
def sqT (n:Nat) (w:Nat→Nat→Bool):List Bool:=tab (n*n) fun y=>w (y / n) (y % n)
theorem sq_div {n i j:Nat} (hj:j < n):(i*n+j) / n=i:=by rw [Nat.mul_comm,Nat.mul_add_div (by omega),Nat.div_eq_of_lt hj]; rfl
theorem sq_mod {n i j:Nat} (hj:j < n):(i*n+j) % n=j:=by rw [Nat.mul_comm,Nat.mul_add_mod,Nat.mod_eq_of_lt hj]
theorem qzob2 {n i j:Nat} {w:Nat→Nat→Bool} (hi:i < n) (hj:j < n):(sqT n w)[i*n+j]? = some (w i j):=by
  unfold sqT
  rw [q1qpf _ (sq_lt hi hj),sq_div hj,sq_mod hj]
theorem qmetg {n:Nat} {w:Nat→Nat→Bool}:(sqT n w).length=n*n:=qnjur _ _
theorem qfx12 {n:Nat} (hn:n≤12):IntKind.i64.wrap ((n:Int)*(n:Int))=((n*n:Nat):Int):=by
  have h:n*n≤12*12:=Nat.mul_le_mul hn hn
  rw [←Int.natCast_mul,wrap64 (by omega) (by omega)]
theorem room1G {n:Nat} (h:n≤1000000):roomOk n 1=true:=by
  unfold roomOk
  rw [Bool.and_eq_true]
  exact ⟨Nat.ble_eq_true_of_le (by omega),Nat.ble_eq_true_of_le (by omega)⟩
section
variable {N:List Node} {E:List Edge}
theorem quszk (hn:N.length≤12) (f:Nat):loopM (qkiyo ((N,E,()),(f:Int),())) ((0:Int),List.replicate N.length false,())=some (.inl (tab N.length (insB N f),())):=by
  have h0:List.replicate N.length false=tab N.length fun j=>if j < 0 then insB N f j else false:=by rw [qeprz]; exact qrnyd fun j _=>by simp
  rw [h0]
  have hend:(tab N.length fun j=>if j < N.length then insB N f j else false)=tab N.length (insB N f):=qrnyd fun j hj=>by rw [if_pos hj]
  rw [←hend]
  refine q9h1y N.length (fun i=>((i:Int),(tab N.length fun j=>if j < i then insB N f j else false),())) _ (fun i hi=>?_) ?_ rfl
  · unfold qkiyo
    have hset:∀ b:Bool,b=insB N f i→(tab N.length fun j=>if j < i then insB N f j else false).set i b=tab N.length fun j=>if j < i+1 then insB N f j else false:=fun b hb=>by
      rw [qq0ob]
      refine qrnyd fun j _=>?_
      by_cases hj:j=i
      · subst hj; rw [if_pos rfl,if_pos (by omega),hb]
      · rw [if_neg hj]
        by_cases h:j < i
        · rw [if_pos h,if_pos (by omega)]
        · rw [if_neg h,if_neg (by omega)]
    simp only [dcT (show (i:Int) < (N.length:Int) by omega),cond_true,getI_D v0 (Int.natCast_nonneg i) (show (i:Int) < (N.length:Int) by omega),Int.toNat_natCast,Option.bind_some,qf6uf,inB_T hi,q1qpf _ hi,wrapS (show i < 9223372036854775807 by omega)]
    show (cond (decide (deepAt N i > (f:Int))) _ (cond (deepAt N i == (f:Int)) _ _))=_
    have hins:insB N f i=(decide (deepAt N i > (f:Int)) || (deepAt N i == (f:Int) && kindAt N i != 6)):=rfl
    cases h1:decide (deepAt N i > (f:Int)) with
    | true=>rw [h1] at hins; rw [cond_true,hset true hins.symm]
    | false =>
      rw [h1] at hins
      rw [cond_false]
      cases h2:deepAt N i == (f:Int) with
      | true =>
        rw [h2] at hins
        rw [cond_true]
        show some (Sum.inl (((i+1:Nat):Int),(tab N.length fun j=>if j < i then insB N f j else false).set i (kindAt N i != 6),()))=_
        rw [hset _ (by rw [hins]; rfl)]
      | false=>rw [h2] at hins; rw [cond_false,hset false hins.symm]
  · unfold qkiyo
    simp only [dcF (show ¬ (N.length:Int) < (N.length:Int) by omega),cond_false]
theorem q6ys6 (hn:N.length≤12) (hE:E.length≤20) (hok:∀ j,j < E.length→edgeC N E j=0) (f:Nat) :
    loopM (qaqnd ((N,E,()),(f:Int),()) (tab N.length (insB N f),())) ((0:Int),List.replicate (N.length*N.length) false,())=some (.inl (sqT N.length (edM N E f E.length),())):=by
  have h0:List.replicate (N.length*N.length) false=sqT N.length (edM N E f 0):=by
    rw [qeprz]; exact qrnyd fun j _=>by simp [edM]
  rw [h0]
  refine q9h1y E.length (fun i=>((i:Int),sqT N.length (edM N E f i),())) _ (fun i hi=>?_) ?_ rfl
  · have hv:=q407q (hok i hi)
    obtain ⟨a,ha⟩:=Int.eq_ofNat_of_zero_le hv.1
    obtain ⟨b,hb⟩:=Int.eq_ofNat_of_zero_le hv.2.2.1
    have han:a < N.length:=by have:=hv.2.1; omega
    have hbn:b < N.length:=by have:=hv.2.2.2.1; omega
    have ha':(E.getD i e0).1=(a:Int):=ha
    have hb':(E.getD i e0).2.1=(b:Int):=hb
    have hsame:(insB N f a && insB N f b)=false→sqT N.length (edM N E f i)=sqT N.length (edM N E f (i+1)):=fun h=>qrnyd fun y _=>by
      unfold edM
      rw [List.range_succ,List.any_append,List.any_cons,List.any_nil,Bool.or_false]
      show _=(_ && _ && (_ || (frE E i == _ && toE E i == _)))
      rw [ha,hb]
      by_cases hy:((a:Nat):Int)=((y / N.length:Nat):Int)∧((b:Nat):Int)=((y % N.length:Nat):Int)
      · have h1:a=y / N.length:=Int.ofNat.inj hy.1
        have h2:b=y % N.length:=Int.ofNat.inj hy.2
        rw [←h1,←h2,h]; simp
      · have:((((a:Nat):Int) == ((y / N.length:Nat):Int)) && (((b:Nat):Int) == ((y % N.length:Nat):Int)))=false:=by
          cases hq:((((a:Nat):Int) == ((y / N.length:Nat):Int)) && (((b:Nat):Int) == ((y % N.length:Nat):Int))) with
          | false=>rfl
          | true=>simp only [Bool.and_eq_true,beq_iff_eq] at hq; exact absurd hq hy
        rw [this,Bool.or_false]
    have hset:(insB N f a && insB N f b)=true→(sqT N.length (edM N E f i)).set (a*N.length+b) true=sqT N.length (edM N E f (i+1)):=fun h=>by
      unfold sqT
      rw [qq0ob]
      refine qrnyd fun y hy=>?_
      unfold edM
      rw [List.range_succ,List.any_append,List.any_cons,List.any_nil,Bool.or_false]
      show _=(_ && _ && (_ || (frE E i == _ && toE E i == _)))
      rw [ha,hb]
      by_cases hyy:y=a*N.length+b
      · subst hyy
        rw [if_pos rfl,sq_div hbn,sq_mod hbn,h]; simp
      · rw [if_neg hyy]
        have:((((a:Nat):Int) == ((y / N.length:Nat):Int)) && (((b:Nat):Int) == ((y % N.length:Nat):Int)))=false:=by
          cases hq:((((a:Nat):Int) == ((y / N.length:Nat):Int)) && (((b:Nat):Int) == ((y % N.length:Nat):Int))) with
          | false=>rfl
          | true =>
            simp only [Bool.and_eq_true,beq_iff_eq] at hq
            exfalso
            have h1:a=y / N.length:=Int.ofNat.inj hq.1
            have h2:b=y % N.length:=Int.ofNat.inj hq.2
            have:=Nat.div_add_mod y N.length
            rw [←h1,←h2,Nat.mul_comm] at this
            exact hyy this.symm
        rw [this,Bool.or_false]
    unfold qaqnd
    simp only [dcT (show (i:Int) < (E.length:Int) by omega),cond_true,getI_D e0 (Int.natCast_nonneg i) (show (i:Int) < (E.length:Int) by omega),Int.toNat_natCast,Option.bind_some,ha',hb',qf6uf,inB_T han,inB_T hbn,q1qpf _ han,q1qpf _ hbn,qcnmy (show N.length≤64 by omega) han hbn,qmetg,inB_T (sq_lt han hbn),qzob2 han hbn,wrapS (show i < 9223372036854775807 by omega)]
    cases h1:insB N f a with
    | false=>rw [cond_false,hsame (by rw [h1]; rfl)]
    | true =>
      rw [cond_true]
      cases h2:insB N f b with
      | false=>rw [cond_false,hsame (by rw [h1,h2]; rfl)]
      | true=>rw [cond_true,hset (by rw [h1,h2]; rfl)]
  · unfold qaqnd
    simp only [dcF (show ¬ (E.length:Int) < (E.length:Int) by omega),cond_false]
def fwL (w:Nat→Nat→Bool) (n k x:Nat):List Bool:=tab (n*n) (fwAt w n k x)
theorem qrq0n {w:Nat→Nat→Bool} {n k x:Nat}:(fwL w n k x).length=n*n:=qnjur _ _
theorem qv2vi {w:Nat→Nat→Bool} {n k x i j:Nat} (hi:i < n) (hj:j < n):(fwL w n k x)[i*n+j]? = some (fwAt w n k x (i*n+j)):=q1qpf _ (sq_lt hi hj)
theorem qzc0b (w:Nat→Nat→Bool) (n k:Nat):sqT n w=fwL w n k 0:=qrnyd fun y _=>by simp [fwAt]
theorem qxxel (w:Nat→Nat→Bool) (n k:Nat):fwL w n k (n*n)=sqT n (fwR w k):=qrnyd fun y hy=>by simp [fwAt,hy]
theorem q7slg (hn:N.length≤12) (f:Nat) (w:Nat→Nat→Bool) {k i:Nat} (hk:k < N.length) (hi:i < N.length) (y1 y2:List Bool × Unit) :
    loopM (q12df ((N,E,()),(f:Int),()) ((i:Int),y1) ((k:Int),y2)) ((0:Int),fwL w N.length k (i*N.length),())=some (.inl (fwL w N.length k ((i+1)*N.length),())):=by
  have hend:(i+1)*N.length=i*N.length+N.length:=by rw [Nat.add_mul,Nat.one_mul]
  rw [hend]
  refine q9h1y N.length (fun j=>((j:Int),fwL w N.length k (i*N.length+j),())) _ (fun j hj=>?_) ?_ rfl
  · have hn64:N.length≤64:=by omega
    have hset:∀ b:Bool,b=fwR w k i j→(fwL w N.length k (i*N.length+j)).set (i*N.length+j) b=fwL w N.length k (i*N.length+(j+1)):=fun b hb=>by
      unfold fwL
      rw [qq0ob]
      exact qrnyd fun y _=>by rw [qe2hx hj,hb]
    have hsame:w i j=fwR w k i j→fwL w N.length k (i*N.length+j)=fwL w N.length k (i*N.length+(j+1)):=fun h=>qrnyd fun y _=>by
      rw [qe2hx hj]
      split
      · rename_i hy; rw [hy,qyrzm hj,h]
      · rfl
    unfold q12df
    simp only [dcT (show (j:Int) < (N.length:Int) by omega),cond_true,qcnmy hn64 hi hk,qcnmy hn64 hk hj,qcnmy hn64 hi hj,qrq0n,inB_T (sq_lt hi hk),inB_T (sq_lt hk hj),inB_T (sq_lt hi hj),Int.toNat_natCast,qv2vi hi hk,qv2vi hk hj,qv2vi hi hj,q01x2 hk,qzzly hj,Option.bind_some,wrapS (show j < 9223372036854775807 by omega)]
    cases h1:w i k with
    | false=>rw [cond_false,hsame (by simp [fwR,h1])]
    | true =>
      rw [cond_true]
      cases h2:w k j with
      | false=>rw [cond_false,hsame (by simp [fwR,h1,h2])]
      | true=>rw [cond_true,hset true (by simp [fwR,h1,h2])]
  · unfold q12df
    simp only [dcF (show ¬ (N.length:Int) < (N.length:Int) by omega),cond_false]
theorem qr10g (hn:N.length≤12) (f:Nat) (w:Nat→Nat→Bool) {k:Nat} (hk:k < N.length) (y:List Bool × Unit) :
    loopM (q3ysh ((N,E,()),(f:Int),()) ((k:Int),y)) ((0:Int),sqT N.length w,())=some (.inl (sqT N.length (fwR w k),())):=by
  rw [qzc0b w N.length k,←qxxel]
  refine q9h1y N.length (fun i=>((i:Int),fwL w N.length k (i*N.length),())) _ (fun i hi=>?_) ?_ (by simp)
  · unfold q3ysh
    simp only [dcT (show (i:Int) < (N.length:Int) by omega),cond_true,q7slg hn f w hk hi,Option.bind_some,Sum.elim_inl,wrapS (show i < 9223372036854775807 by omega)]
  · unfold q3ysh
    simp only [dcF (show ¬ (N.length:Int) < (N.length:Int) by omega),cond_false]
theorem qzuww (hn:N.length≤12) (hE:E.length≤20) (hok:∀ j,j < E.length→edgeC N E j=0) (f:Nat) :
    q47a1 ((N,E,()),(f:Int),())=some (sqT N.length (fwN (edM N E f E.length) N.length),()):=by
  have hnn:N.length*N.length≤12*12:=Nat.mul_le_mul hn hn
  unfold q47a1
  simp only [qfx12 hn,Int.toNat_natCast]
  rw [dcT (show (0:Int)≤((N.length*N.length:Nat):Int) by omega),dcT (show ((N.length*N.length:Nat):Int)≤((N.length*N.length:Nat):Int) by omega),room1G (by omega),dcT (show ((N.length*N.length:Nat):Int)≤9223372036854775807 by omega),
    dcT (show (0:Int)≤(N.length:Int) by omega),dcT (show (N.length:Int)≤(N.length:Int) by omega),room1G (show N.length≤1000000 by omega),dcT (show (N.length:Int)≤9223372036854775807 by omega)]
  simp only [Bool.and_self,cond_true,quszk hn f,Option.bind_some,Sum.elim_inl,q6ys6 hn hE hok f]
  have h5:loopM (q0x6o ((N,E,()),(f:Int),())) ((0:Int),sqT N.length (edM N E f E.length),())=some (.inl (sqT N.length (fwN (edM N E f E.length) N.length),())):=by
    refine q9h1y N.length (fun k=>((k:Int),sqT N.length (fwN (edM N E f E.length) k),())) _ (fun k hk=>?_) ?_ rfl
    · unfold q0x6o
      simp only [dcT (show (k:Int) < (N.length:Int) by omega),cond_true,qr10g hn f _ hk,Option.bind_some,Sum.elim_inl,wrapS (show k < 9223372036854775807 by omega)]
      rfl
    · unfold q0x6o
      simp only [dcF (show ¬ (N.length:Int) < (N.length:Int) by omega),cond_false]
  rw [h5]
  rfl
end
end

section
open Go Go.Abs

theorem qeb96 {p q:Nat→Bool} {n:Nat} (h:∀ i,i < n→p i=q i):(List.range n).find? p=(List.range n).find? q:=by
  have key:∀ l:List Nat,(∀ i,i∈l→p i=q i)→l.find? p=l.find? q:=by
    intro l
    induction l with
    | nil=>intro _; rfl
    | cons a r ih =>
      intro hl
      rw [List.find?_cons,List.find?_cons,hl a (by simp),ih fun i hi=>hl i (by simp [hi])]
  exact key _ fun i hi=>h i (List.mem_range.1 hi)
def ringR (N:List Node) (E:List Edge) (j:Nat):Bool:=(List.range N.length).any fun i=>fwN (edM N E (deepAt N i).toNat E.length) N.length j i && fwN (edM N E (deepAt N i).toNat E.length) N.length i j
section
variable {N:List Node} {E:List Edge}
theorem edM_iff {f a b:Nat}:edM N E f E.length a b=true↔insB N f a=true∧insB N f b=true∧∃ j,j < E.length∧frE E j=a∧toE E j=b:=by
  unfold edM
  rw [Bool.and_eq_true,Bool.and_eq_true,List.any_eq_true]
  constructor
  · rintro ⟨⟨h1,h2⟩,j,h3,h4⟩
    rw [Bool.and_eq_true,beq_iff_eq,beq_iff_eq] at h4
    exact ⟨h1,h2,j,List.mem_range.1 h3,h4⟩
  · rintro ⟨h1,h2,j,h3,h4,h5⟩
    exact ⟨⟨h1,h2⟩,j,List.mem_range.2 h3,by rw [h4,h5]; simp⟩
theorem qy02c (f a:Nat):(insW N f).testBit a=true↔a < N.length∧insB N f a=true:=by
  unfold insW
  rw [qbx09,Bool.and_eq_true,decide_eq_true_eq]
theorem edM_lt (hok:∀ j,j < E.length→edgeC N E j=0) {f a b:Nat} (h:edM N E f E.length a b=true):a < N.length∧b < N.length:=by
  obtain ⟨_,_,j,hj,h1,h2⟩:=edM_iff.1 h
  have he:=q407q (hok j hj)
  rw [h1,h2] at he
  exact ⟨by have:=he.2.1; omega,by have:=he.2.2.2.1; omega⟩
theorem q1g13 (hok:∀ j,j < E.length→edgeC N E j=0) {f a b:Nat}:stepA (toW E E.length) (insW N f) a b=true↔(∃ j,j < E.length∧frE E j=a∧toE E j=b)∧(insW N f).testBit b=true:=by
  unfold stepA
  rw [Bool.and_eq_true,q1ojf E a b E.length fun j hj=>(q407q (hok j hj)).2.2.1]
theorem way_ed (hok:∀ j,j < E.length→edgeC N E j=0) {f i j:Nat} (h:Way (stepA (toW E E.length) (insW N f)) i j):(insW N f).testBit i=true→Way (edM N E f E.length) i j∧(insW N f).testBit j=true:=by
  intro hi
  induction h with
  | one h =>
    obtain ⟨h1,h2⟩:=(q1g13 hok).1 h
    exact ⟨.one (edM_iff.2 ⟨((qy02c _ _).1 hi).2,((qy02c _ _).1 h2).2,h1⟩),h2⟩
  | more _ h2 ih =>
    obtain ⟨h1,h2⟩:=(q1g13 hok).1 h2
    exact ⟨.more ih.1 (edM_iff.2 ⟨((qy02c _ _).1 ih.2).2,((qy02c _ _).1 h2).2,h1⟩),h2⟩
theorem ed_way (hok:∀ j,j < E.length→edgeC N E j=0) {f i j:Nat} (h:Way (edM N E f E.length) i j):Way (stepA (toW E E.length) (insW N f)) i j∧(insW N f).testBit i=true:=by
  have key:∀ {a b},edM N E f E.length a b=true→stepA (toW E E.length) (insW N f) a b=true∧(insW N f).testBit a=true:=fun {a b} h=>by
    have hl:=edM_lt hok h
    obtain ⟨h1,h2,h3⟩:=edM_iff.1 h
    exact ⟨(q1g13 hok).2 ⟨h3,(qy02c _ _).2 ⟨hl.2,h2⟩⟩,(qy02c _ _).2 ⟨hl.1,h1⟩⟩
  induction h with
  | one h=>exact ⟨.one (key h).1,(key h).2⟩
  | more _ h2 ih=>exact ⟨.more ih.1 (key h2).1,ih.2⟩
theorem q7wsb (hN:N.all mayB=true) (hok:∀ j,j < E.length→edgeC N E j=0) (j:Nat):(badN N (toW E E.length) 4).testBit j=ringR N E j:=by
  rw [Bool.eq_iff_iff,qpqce]
  unfold ringR
  rw [List.any_eq_true]
  constructor
  · rintro ⟨f,i,h1,h2,h3,h4,h5,h6,h7⟩
    have hf:(deepAt N i).toNat=f:=by omega
    have e1:=way_ed hok h6 h4
    have e2:=way_ed hok h7 e1.2
    refine ⟨i,List.mem_range.2 h3,?_⟩
    rw [hf,Bool.and_eq_true]
    exact ⟨(qssyt (fun a b h=>edM_lt hok h) _ _).2 e2.1,(qssyt (fun a b h=>edM_lt hok h) _ _).2 e1.1⟩
  · rintro ⟨i,hi,h⟩
    have hi:=List.mem_range.1 hi
    rw [Bool.and_eq_true] at h
    have hm:=qz3hk (may_at hN (Int.natCast_nonneg i) (by omega))
    have hm':1≤deepAt N i∧deepAt N i≤4:=hm
    have w1:=ed_way hok ((qssyt (fun a b h=>edM_lt hok h) _ _).1 h.1)
    have w2:=ed_way hok ((qssyt (fun a b h=>edM_lt hok h) _ _).1 h.2)
    exact ⟨(deepAt N i).toNat,i,by omega,by omega,hi,w2.2,by omega,w2.1,w1.1⟩
def waysR (N:List Node) (E:List Edge):List (List Bool):=tab 4 fun f=>sqT N.length (fwN (edM N E (f+1) E.length) N.length)
theorem qcp0w (hn:N.length≤12) (z:Int × Int × Unit):loopM (qwzfa ((N,E,()),())) ((0:Int),z,())=some (exitOr (((List.range N.length).find? fun i=>!mayB (N.getD i v0)).map fun i:Nat=>(((2:Int),(i:Int),()),())) (.inl (z,()))):=by
  rw [←q3cir]
  refine qw17v (f:=qwzfa ((N,E,()),())) N.length (fun i=>((i:Int),z,())) _ _ (fun i hi=>?_) ?_ rfl
  · unfold qwzfa
    simp only [dcT (show (i:Int) < (N.length:Int) by omega),cond_true,getI_D v0 (Int.natCast_nonneg i) (show (i:Int) < (N.length:Int) by omega),Int.toNat_natCast,Option.bind_some,qgebe]
    rw [wrapS (by omega)]
    cases mayB (N.getD i v0) <;> rfl
  · unfold qwzfa
    simp only [dcF (show ¬ (N.length:Int) < (N.length:Int) by omega),cond_false]
theorem qu1uh (hN:N.all mayB=true) (hE:E.length≤20) (z:Int × Int × Unit):loopM (qjrsi ((N,E,()),())) ((0:Int),z,())=some (exitOr (((List.range E.length).find? fun i=>edgeC N E i != 0).map fun i:Nat=>((edgeC N E i,(i:Int),()),())) (.inl (z,()))):=by
  rw [←q3cir]
  refine qw17v (f:=qjrsi ((N,E,()),())) E.length (fun i=>((i:Int),z,())) _ _ (fun i hi=>?_) ?_ rfl
  · unfold qjrsi
    simp only [dcT (show (i:Int) < (E.length:Int) by omega),cond_true,qugmm hN hE hi,Option.bind_some]
    rw [wrapS (by omega)]
    cases edgeC N E i != 0 <;> rfl
  · unfold qjrsi
    simp only [dcF (show ¬ (E.length:Int) < (E.length:Int) by omega),cond_false]
theorem q5nup (hE:E.length≤20) (i:Nat) (z:(Int × Int × Unit) × Unit):loopM (qzkta ((N,E,()),()) ((i:Int),z)) ((0:Int),(0:Int),())=some (.inl (((cntB E.length fun j=>toE E j == (i:Int):Nat):Int),())):=by
  refine q9h1y E.length (fun j=>(((cntB j fun j=>toE E j == (i:Int):Nat):Int),(j:Int),())) _ (fun j hj=>?_) ?_ rfl
  · unfold qzkta
    have hc:=qvgz1 (fun j=>toE E j == (i:Int)) j
    simp only [dcT (show (j:Int) < (E.length:Int) by omega),cond_true,getI_D e0 (Int.natCast_nonneg j) (show (j:Int) < (E.length:Int) by omega),Int.toNat_natCast,Option.bind_some]
    rw [wrapS (show j < 9223372036854775807 by omega),wrapS (show cntB j _ < 9223372036854775807 by omega)]
    show (cond (toE E j == (i:Int)) _ _)=some (Sum.inl (((cntB j _+cond (toE E j == (i:Int)) 1 0:Nat):Int),_))
    cases toE E j == (i:Int) <;> rfl
  · unfold qzkta
    simp only [dcF (show ¬ (E.length:Int) < (E.length:Int) by omega),cond_false]
theorem qg1u3 (hn:N.length≤12) (hE:E.length≤20) (hok:∀ j,j < E.length→edgeC N E j=0) (z:Int × Int × Unit):loopM (qryra ((N,E,()),())) ((0:Int),z,())=some (exitOr (((List.range N.length).find? fun i=>missB N E i).map fun i:Nat=>(((5:Int),(i:Int),()),())) (.inl (z,()))):=by
  rw [←q3cir]
  refine qw17v (f:=qryra ((N,E,()),())) N.length (fun i=>((i:Int),z,())) _ _ (fun i hi=>?_) ?_ rfl
  · unfold qryra
    simp only [dcT (show (i:Int) < (N.length:Int) by omega),cond_true,q5nup hE i (z,()),Sum.elim_inl,getI_D v0 (Int.natCast_nonneg i) (show (i:Int) < (N.length:Int) by omega),Int.toNat_natCast,Option.bind_some,qo5bc]
    rw [wrapS (by omega),q89hb hok]
    cases missB N E i <;> rfl
  · unfold qryra
    simp only [dcF (show ¬ (N.length:Int) < (N.length:Int) by omega),cond_false]
theorem qxdh9 (hn:N.length≤12) (hE:E.length≤20) (hok:∀ j,j < E.length→edgeC N E j=0):loopM (qkh5z ((N,E,()),())) (([]:List (List Bool)),(1:Int),())=some (.inl (waysR N E,())):=by
  refine q9h1y 4 (fun f=>(tab f fun f=>sqT N.length (fwN (edM N E (f+1) E.length) N.length),((f+1:Nat):Int),())) _ (fun f hf=>?_) ?_ rfl
  · unfold qkh5z
    simp only [dcT (show ((f+1:Nat):Int)≤4 by omega),cond_true,qzuww hn hE hok (f+1),Option.bind_some,qf6uf,List.length_cons,List.length_nil]
    have hr:roomOk (f+(0+1)) 24=true:=by
      unfold roomOk
      rw [Bool.and_eq_true]
      exact ⟨Nat.ble_eq_true_of_le (by omega),Nat.ble_eq_true_of_le (by omega)⟩
    rw [hr,wrapS (by omega),←qne2u]
    rfl
  · unfold qkh5z
    rfl
theorem qzbun (hn:N.length≤12) (hN:N.all mayB=true) {j:Nat} (hj:j < N.length) (z w:Int × Int × Unit) :
    loopM (qzmua ((N,E,()),()) (waysR N E,()) ((j:Int),z,())) ((0:Int),w,())=some (if ringR N E j=true then .inl (((9:Int),(j:Int),()),()) else .inr (.inl (w,()))):=by
  have h:=qw17v (f:=qzmua ((N,E,()),()) (waysR N E,()) ((j:Int),z,())) N.length (fun i=>((i:Int),w,())) (fun i=>cond (fwN (edM N E (deepAt N i).toNat E.length) N.length j i && fwN (edM N E (deepAt N i).toNat E.length) N.length i j) (some (((9:Int),(j:Int),()),())) none) (.inl (w,())) (fun i hi=>by
    have hm:=qz3hk (may_at hN (Int.natCast_nonneg i) (show (i:Int) < (N.length:Int) by omega))
    have hm':1≤deepAt N i∧deepAt N i≤4:=hm
    obtain ⟨f,hf⟩:=Int.eq_ofNat_of_zero_le (show 0≤deepAt N i - 1 by omega)
    have hd:deepAt N i=((f+1:Nat):Int):=by omega
    have hd':(N.getD i v0).2.1=((f+1:Nat):Int):=hd
    have hw:IntKind.i64.wrap (((f+1:Nat):Int) - 1)=(f:Int):=by rw [wrap64 (by omega) (by omega)]; omega
    have hf4:f < 4:=by omega
    have hg:(waysR N E)[f]? = some (sqT N.length (fwN (edM N E (f+1) E.length) N.length)):=q1qpf _ hf4
    have hl:(waysR N E).length=4:=qf6uf
    have hn64:N.length≤64:=by omega
    unfold qzmua
    simp only [dcT (show (i:Int) < (N.length:Int) by omega),cond_true,getI_D v0 (Int.natCast_nonneg i) (show (i:Int) < (N.length:Int) by omega),Int.toNat_natCast,Option.bind_some,hd',hw,hl,inB_T hf4,hg,qcnmy hn64 hj hi,qcnmy hn64 hi hj,qooa6,qzob2 hj hi,qzob2 hi hj,wrapS (show i < 9223372036854775807 by omega),hd]
    cases fwN (edM N E (f+1) E.length) N.length j i <;> cases fwN (edM N E (f+1) E.length) N.length i j <;> rfl) (by
    unfold qzmua
    simp only [dcF (show ¬ (N.length:Int) < (N.length:Int) by omega),cond_false]) rfl
  refine Eq.trans h ?_
  rw [qzvyn]
  show some (exitOr (if ringR N E j=true then _ else _) _)=_
  split <;> rfl
theorem qx88k (hn:N.length≤12) (hN:N.all mayB=true) (z:Int × Int × Unit):loopM (qdwua ((N,E,()),()) (waysR N E,())) ((0:Int),z,())=some (exitOr (((List.range N.length).find? fun j=>ringR N E j).map fun j:Nat=>(((9:Int),(j:Int),()),())) (.inl (z,()))):=by
  rw [←q3cir]
  refine qw17v (f:=qdwua ((N,E,()),()) (waysR N E,())) N.length (fun i=>((i:Int),z,())) _ _ (fun j hj=>?_) ?_ rfl
  · unfold qdwua
    simp only [dcT (show (j:Int) < (N.length:Int) by omega),cond_true,qzbun hn hN hj z z,Option.bind_some]
    rw [wrapS (by omega)]
    cases ringR N E j <;> rfl
  · unfold qdwua
    simp only [dcF (show ¬ (N.length:Int) < (N.length:Int) by omega),cond_false]
end
def gval (N:List Node) (E:List Edge):Int × Int × Unit :=
  if 12 < N.length∨20 < E.length then (1,0,())
  else match (List.range N.length).find? fun i=>!mayB (N.getD i v0) with
  | some i=>(2,(i:Int),())
  | none=>match (List.range E.length).find? fun i=>edgeC N E i != 0 with
    | some i=>(edgeC N E i,(i:Int),())
    | none=>match (List.range N.length).find? fun i=>missB N E i with
      | some i=>(5,(i:Int),())
      | none=>match (List.range N.length).find? fun j=>ringR N E j with
        | some j=>(9,(j:Int),())
        | none=>(0,0,())
theorem qpsyk {N:List Node} (h:(List.range N.length).find? (fun i=>!mayB (N.getD i v0))=none):N.all mayB=true:=by
  rw [List.all_eq_true]
  intro v hv
  obtain ⟨i,hi,rfl⟩:=List.mem_iff_getElem.1 hv
  have:=q1bzg h i hi
  rw [List.getD_eq_getElem?_getD,List.getElem?_eq_getElem hi] at this
  simpa using this
theorem q2f60 (N:List Node) (E:List Edge):qourv ((N,E,()),())=some (gval N E,()):=by
  unfold qourv gval
  by_cases h1:12 < N.length
  · simp only [dcT (show (N.length:Int) > 12 by omega),cond_true,if_pos (Or.inl h1:12 < N.length∨20 < E.length)]
  by_cases h2:20 < E.length
  · simp only [dcF (show ¬ (N.length:Int) > 12 by omega),dcT (show (E.length:Int) > 20 by omega),cond_true,cond_false,if_pos (Or.inr h2:12 < N.length∨20 < E.length)]
  have hn:N.length≤12:=by omega
  have hE:E.length≤20:=by omega
  simp only [dcF (show ¬ (N.length:Int) > 12 by omega),dcF (show ¬ (E.length:Int) > 20 by omega),cond_false,if_neg (show ¬ (12 < N.length∨20 < E.length) by omega),qcp0w hn,Option.bind_some]
  cases hf1:(List.range N.length).find? fun i=>!mayB (N.getD i v0) with
  | some i=>rfl
  | none =>
    have hN:=qpsyk hf1
    simp only [Option.map_none,qp01l,Sum.elim_inr,Sum.elim_inl,qu1uh hN hE,Option.bind_some]
    cases hf2:(List.range E.length).find? fun i=>edgeC N E i != 0 with
    | some i=>rfl
    | none =>
      have hok:∀ j,j < E.length→edgeC N E j=0:=fun j hj=>by simpa using q1bzg hf2 j hj
      simp only [Option.map_none,qp01l,Sum.elim_inr,Sum.elim_inl,qg1u3 hn hE hok,Option.bind_some]
      cases hf3:(List.range N.length).find? fun i=>missB N E i with
      | some i=>rfl
      | none =>
        simp only [Option.map_none,qp01l,Sum.elim_inr,Sum.elim_inl,qxdh9 hn hE hok,qx88k hn hN,Option.bind_some]
        cases hf4:(List.range N.length).find? fun j=>ringR N E j <;> rfl
end

section
open Go Go.Abs

theorem qfbua (a b:Int):qv6tf (a,b,())=some ((a,b,()),()):=rfl
theorem qo6nl (n:Nat):List.replicate n (0:Int)=cl (tab n fun _=>0):=by
  unfold cl
  rw [show (tab n fun _=>0)=List.replicate n 0 from (qeprz ..).symm,List.map_replicate]
  rfl
section
variable {N:List Node} {E:List Edge}
theorem qklgd (hn:N.length≤12):loopM (qq21m ((N,E,()),())) ((0:Int),())=some (exitOr (((List.range N.length).find? fun i=>!mayB (N.getD i v0)).map fun i:Nat=>((i:Int),())) (.inl ())):=by
  rw [←q3cir]
  refine qw17v (f:=qq21m ((N,E,()),())) N.length (fun i=>((i:Int),())) _ _ (fun i hi=>?_) ?_ rfl
  · unfold qq21m
    simp only [dcT (show (i:Int) < (N.length:Int) by omega),cond_true,getI_D v0 (Int.natCast_nonneg i) (show (i:Int) < (N.length:Int) by omega),Int.toNat_natCast,Option.bind_some,qb4zj]
    rw [wrapS (by omega)]
    cases mayB (N.getD i v0) <;> rfl
  · unfold qq21m
    simp only [dcF (show ¬ (N.length:Int) < (N.length:Int) by omega),cond_false]
theorem q0x7z:(List.range E.length).findSome? (edgeG N E)=((List.range E.length).find? fun i=>edgeC N E i != 0).map fun i=>(cl (tab N.length (toW E i)),(edgeC N E i,(i:Int),()),takenM E i,()):=by
  rw [←q3cir]
  refine congrArg (fun f=>(List.range E.length).findSome? f) (funext fun i=>?_)
  unfold edgeG
  rw [qerg8]
theorem qhsa8 {n v:Nat} (hv:v < 2 ^ n):((List.range n).findSome? fun j=>if v.testBit j=true then some (Sum.inl (((j:Int),()),()):(((Int × Unit) × Unit) ⊕ ((Int × Unit) × Unit) ⊕ Empty)) else none)=((List.range n).find? fun j=>v.testBit j).map fun j:Nat=>Sum.inl (((j:Int),()),()):=by
  rw [←q3cir]
  refine congrArg (fun f=>(List.range n).findSome? f) (funext fun i=>?_)
  cases v.testBit i <;> rfl
theorem q9a5b (N:List Node) (E:List Edge):q90dg ((N,E,()),())=some (gval N E,()):=by
  unfold q90dg gval
  by_cases h1:12 < N.length
  · simp only [dcT (show (N.length:Int) > 12 by omega),cond_true,if_pos (Or.inl h1:12 < N.length∨20 < E.length),qfbua,Option.bind_some]
  by_cases h2:20 < E.length
  · simp only [dcF (show ¬ (N.length:Int) > 12 by omega),dcT (show (E.length:Int) > 20 by omega),cond_true,cond_false,if_pos (Or.inr h2:12 < N.length∨20 < E.length),qfbua,Option.bind_some]
  have hn:N.length≤12:=by omega
  have hE:E.length≤20:=by omega
  simp only [dcF (show ¬ (N.length:Int) > 12 by omega),dcF (show ¬ (E.length:Int) > 20 by omega),cond_false,if_neg (show ¬ (12 < N.length∨20 < E.length) by omega),qklgd hn,Option.bind_some]
  cases hf1:(List.range N.length).find? fun i=>!mayB (N.getD i v0) with
  | some i =>
    simp only [Option.map_some,q6jw0,Sum.elim_inl,Option.bind_some,dcT (show (i:Int) ≥ 0 by omega),cond_true,qfbua]
  | none =>
    have hN:=qpsyk hf1
    have hr4:roomOk N.length 4=true:=by
      unfold roomOk
      rw [Bool.and_eq_true]
      exact ⟨Nat.ble_eq_true_of_le (by omega),Nat.ble_eq_true_of_le (by omega)⟩
    have d1:decide ((-1:Int) ≥ 0)=false:=by decide
    simp only [Option.map_none,qp01l,Sum.elim_inr,Sum.elim_inl,Option.bind_some,d1,cond_false,dcT (show (0:Int)≤(N.length:Int) by omega),dcT (show (N.length:Int)≤(N.length:Int) by omega),Int.toNat_natCast,hr4,dcT (show (N.length:Int)≤9223372036854775807 by omega),Bool.and_self,cond_true,qo6nl,q9r32 hn hN hE,q0x7z]
    cases hf2:(List.range E.length).find? fun i=>edgeC N E i != 0 with
    | some i =>
      have hne:(edgeC N E i != 0)=true:=by have:=List.find?_some hf2; exact this
      simp only [Option.map_some,q6jw0,Sum.elim_inl,Option.bind_some,hne,cond_true]
    | none =>
      have hok:∀ j,j < E.length→edgeC N E j=0:=fun j hj=>by simpa using q1bzg hf2 j hj
      have hT:∀ a,toW E E.length a < 2 ^ N.length:=fun a=>toW_lt a E.length fun j hj=>⟨(q407q (hok j hj)).2.2.1,(q407q (hok j hj)).2.2.2.1⟩
      simp only [Option.map_none,qp01l,Sum.elim_inr,Sum.elim_inl,Option.bind_some,qcw8o E hn,q3cir]
      cases hf3:(List.range N.length).find? fun i=>missB N E i with
      | some i=>rfl
      | none =>
        have hb:=q4rwh N (toW E E.length) 4
        have h0:((0:Int) != 0)=false:=rfl
        have hs:(List.range N.length).find? (fun j=>(badN N (toW E E.length) 4).testBit j)=(List.range N.length).find? fun j=>ringR N E j:=qeb96 fun j _=>q7wsb hN hok j
        simp only [Option.map_none,qp01l,Sum.elim_inr,Sum.elim_inl,Option.bind_some,h0,cond_false,qo23l E hn hT,q69u7 (lt_64 (lt32 hn hb)),q2usj hn hb,qhsa8 hb,hs]
        cases hf4:(List.range N.length).find? fun j=>ringR N E j with
        | some j =>
          simp only [Option.map_some,Option.getD_some,Sum.elim_inl,Option.bind_some,dcT (show (j:Int) ≥ 0 by omega),cond_true,qfbua]
        | none =>
          simp only [Option.map_none,Option.getD_none,Sum.elim_inr,Sum.elim_inl,Option.bind_some,d1,cond_false]
end
end

end Go.Proofs.Tryz
