/- The plain law of ReachFronts. -/
import Derived.Test.YtgepgleagefmeabGreatDoorZFFuns
import Derived.Test.YtgepgleagefmeabGreatDoorAbsSums
import Derived.Test.YtgepgleagefmeabGreatDoorZFLemmasReachFronts5
import Derived.Test.YtgepgleagefmeabGreatDoorZFLemmasReachFronts2
namespace Go.Proofs.Tryz
open Go Go.Abs

def movedL (l:List Sm) (t:List Int):List (List Int):=(l.filter fun s=>decide ((app s.1.toNat s.2.1 s.2.2.1 t).2=0)).map fun s=>(app s.1.toNat s.2.1 s.2.2.1 t).1
def allM (P:Tb) (b:Nat) (L:List Stp):List (List Int):=L.flatMap fun s=>movedL (P s.1.toNat b) s.2.1
def frontF (P:Tb) (L:List Stp) (b:Nat):List (List Int):=keepF (sortD (allM P b L))
theorem qrdd7 (l:List Sm) (t:List Int):(movedL l t).length≤l.length:=by
  unfold movedL
  rw [List.length_map]
  exact List.length_filter_le ..
theorem qi6c1 {α β:Type} {f:α→List β} {c:Nat}:∀ {l:List α},(∀ x∈l,(f x).length≤c)→(l.flatMap f).length≤l.length*c
  | [],_=>Nat.zero_le _
  | a :: l,h=>by
    have h1:=h a List.mem_cons_self
    have h2:=qi6c1 (l:=l) fun x hx=>h x (List.mem_cons_of_mem _ hx)
    rw [List.flatMap_cons,List.length_append,List.length_cons,Nat.succ_mul]
    omega
section
variable {N:List Node} {E:List Edge}
theorem qru0v (L:List Stp) (hL:L.length≤64):loopM (qr7iy ((N,E,()),L,())) ((0:Int),())=some (exitOr ((qfzl9 N L).map fun c=>(([]:List (List (List Int))),c,())) (.inl ())):=by
  unfold qfzl9
  rw [←qtjde ((0,[],()):Stp),←qnzw7]
  refine qw17v (f:=qr7iy ((N,E,()),L,())) L.length (fun i=>((i:Int),())) _ (.inl ()) (fun i hi=>?_) ?_ rfl
  · unfold qr7iy
    rw [List.getD_eq_getElem?_getD,List.getElem?_eq_getElem hi,Option.getD_some]
    simp only [dcT (show (i:Int) < (L.length:Int) by omega),cond_true,q1j71 hi,Option.bind_some,wrapS (show i < 9223372036854775807 by omega),show qyd8i ((N,E,()),L[i],())=some (stampC N L[i].1 L[i].2.1,()) from qftu6 _ _,qerg8]
    by_cases h:stampC N L[i].1 L[i].2.1=0
    · rw [if_pos h,if_pos h]; rfl
    · rw [if_neg h,if_neg h]; rfl
  · unfold qr7iy
    simp only [dcF (show ¬ (L.length:Int) < (L.length:Int) by omega),cond_false]
theorem qp37f (L:List Stp) (hL:L.length≤9223372036854775807):∀ (k i:Nat),i+k=L.length→∀ c:Int,loopM (qu5u4 ((N,E,()),L,())) (c,(i:Int),())=some (.inl (codeL N c (L.drop i),()))
  | 0,i,hi,c=>by
    rw [q7xfb (b:=.inl (c,())) (by
      unfold qu5u4
      simp only [dcF (show ¬ (i:Int) < (L.length:Int) by omega),cond_false]),List.drop_of_length_le (by omega)]
    rfl
  | k+1,i,hi,c=>by
    have hlt:i < L.length:=by omega
    have hs:qu5u4 ((N,E,()),L,()) (c,(i:Int),())=some (if c=0 then .inl (stampC N L[i].1 L[i].2.1,((i+1:Nat):Int),()) else .inr (.inl (c,()))):=by
      unfold qu5u4
      simp only [dcT (show (i:Int) < (L.length:Int) by omega),cond_true,q1j71 hlt,Option.bind_some,qzbv9,wrapS (show i < 9223372036854775807 by omega),q0kjd]
      split <;> rfl
    rw [List.drop_eq_getElem_cons hlt]
    unfold codeL
    by_cases h:c=0
    · rw [if_pos h] at hs
      rw [q2k3l hs,qp37f L hL k (i+1) (by omega),if_pos h]
    · rw [if_neg h] at hs
      rw [q7xfb hs,if_neg h]
theorem qvy67 {l:List Sm} {i:Nat} (hi:i < l.length) (t:List Int):movedL (l.take (i+1)) t=movedL (l.take i) t++(if (app l[i].1.toNat l[i].2.1 l[i].2.2.1 t).2=0 then [(app l[i].1.toNat l[i].2.1 l[i].2.2.1 t).1] else []):=by
  unfold movedL
  rw [List.take_succ_eq_append_getElem hi,List.filter_append,List.map_append]
  by_cases h:(app l[i].1.toNat l[i].2.1 l[i].2.2.1 t).2=0
  · simp [h]
  · simp [h]
theorem qizve {l:List Sm} {t:List Int} (hl:∀ s∈l,bx s∧kN s≤t.length) (hn:l.length≤154700) (ht:chk t=0) (m:Stp) (hm:m.2.1=t) {K:List (List Int)} (hK:K.length≤10000000) :
    loopM (qxu1b l m) ((0:Int),K,(),())=some (.inl (K++movedL l t,(),()))∧loopM (qstpd l m) (K,(0:Int),())=some (.inl (K++movedL l t,())):=by
  have hlen:∀ i,(K++movedL (l.take i) t).length≤10154700:=fun i=>by
    have:=qrdd7 (l.take i) t
    rw [List.length_take] at this
    rw [List.length_append]; omega
  constructor
  · have key:loopM (qxu1b l m) ((0:Int),K,(),())=some (.inl (K++movedL (l.take l.length) t,(),())):=by
      refine q9h1y l.length (fun i=>((i:Int),K++movedL (l.take i) t,(),())) _ (fun i hi=>?_) ?_ (by simp [movedL])
      · obtain ⟨hb,hk⟩:=hl _ (List.getElem_mem hi)
        have hr:=hlen i
        rw [qvy67 hi,←List.append_assoc]
        generalize K++movedL (l.take i) t=M at *
        unfold qxu1b
        simp only [dcT (show (i:Int) < (l.length:Int) by omega),cond_true,q1j71 hi,Option.bind_some,hm,(qgc1n hb ht hk).1,q0kjd,wrapS (show i < 9223372036854775807 by omega)]
        by_cases h:(app l[i].1.toNat l[i].2.1 l[i].2.2.1 t).2=0
        · simp only [if_pos h,List.length_cons,List.length_nil,qu8rx (show M.length+(0+1)≤140737488355328 by omega) (show (M.length+(0+1))*24≤140737488355328 by omega),Bool.and_true,cond_true]
        · rw [if_neg h,if_neg h,List.append_nil]
      · unfold qxu1b
        simp only [dcF (show ¬ (l.length:Int) < (l.length:Int) by omega),cond_false]
    rw [List.take_length] at key
    exact key
  · have key:loopM (qstpd l m) (K,(0:Int),())=some (.inl (K++movedL (l.take l.length) t,())):=by
      refine q9h1y l.length (fun i=>(K++movedL (l.take i) t,(i:Int),())) _ (fun i hi=>?_) ?_ (by simp [movedL])
      · obtain ⟨hb,hk⟩:=hl _ (List.getElem_mem hi)
        have hr:=hlen i
        rw [qvy67 hi,←List.append_assoc]
        generalize K++movedL (l.take i) t=M at *
        unfold qstpd
        simp only [dcT (show (i:Int) < (l.length:Int) by omega),cond_true,q1j71 hi,Option.bind_some,hm,(qgc1n hb ht hk).2,q0kjd,wrapS (show i < 9223372036854775807 by omega)]
        by_cases h:(app l[i].1.toNat l[i].2.1 l[i].2.2.1 t).2=0
        · simp only [if_pos h,List.length_cons,List.length_nil,qu8rx (show M.length+(0+1)≤140737488355328 by omega) (show (M.length+(0+1))*24≤140737488355328 by omega),Bool.and_true,cond_true]
        · rw [if_neg h,if_neg h,List.append_nil]
      · unfold qstpd
        simp only [dcF (show ¬ (l.length:Int) < (l.length:Int) by omega),cond_false]
    rw [List.take_length] at key
    exact key
theorem qtop0 {P:Tb} {b:Nat} {L:List Stp} {i:Nat} (hi:i < L.length):allM P b (L.take (i+1))=allM P b (L.take i)++movedL (P L[i].1.toNat b) L[i].2.1:=by
  unfold allM
  rw [List.take_succ_eq_append_getElem hi,List.flatMap_append]
  simp
theorem qwh11 {P:Tb} (hP:∀ u v,(P u v).length≤154700) (b:Nat) {L:List Stp} (hL:L.length≤64):(allM P b L).length≤10000000:=by
  have:(allM P b L).length≤L.length*154700:=qi6c1 fun s _=>Nat.le_trans (qrdd7 ..) (hP _ _)
  omega
theorem qesj6 (g:GR N.length (depN N) (sumN N) (edN E)) {P:Tb} (hP:PF N.length (depN N) (sumN N) (edN E) P) (hb:∀ u v,∀ x∈P u v,bx x) {L:List Stp} (hL:L.length≤64) (hok:∀ s∈L,∃ k:Nat,s.1=(k:Int)∧k < N.length∧chk s.2.1=0∧s.2.1.length=depN N k) {b:Nat} (hbn:b < N.length) (y28:Int × List (List (List Int)) × Unit) (hy:y28.1=(b:Int)) (y1:List (List (List Int)) × Int × Unit) (hy1:y1.2.1=(b:Int)) :
    loopM (qlwlp ((N,E,()),L,()) y28 (sq N.length P,())) ((0:Int),([]:List (List Int)),(),())=some (.inl (allM P b L,(),())) ∧
    loopM (q4fia ((N,E,()),sq N.length P,L,()) y1) (([]:List (List Int)),(0:Int),())=some (.inl (allM P b L,())):=by
  have hn:=g.n12
  have hPl:∀ u v,(P u v).length≤154700:=fun u v=>q9iju (hP.an u v) (hb u v)
  have hlen:∀ i,(allM P b (L.take i)).length≤10000000:=fun i=>qwh11 hPl b (by rw [List.length_take]; omega)
  have step:∀ i (hi:i < L.length),∃ v:Nat,L[i].1=(v:Int)∧v < N.length∧∀ K:List (List Int),K.length≤10000000→loopM (qxu1b (P v b) L[i]) ((0:Int),K,(),())=some (.inl (K++movedL (P v b) L[i].2.1,(),()))∧loopM (qstpd (P v b) L[i]) (K,(0:Int),())=some (.inl (K++movedL (P v b) L[i].2.1,())):=fun i hi=>by
    obtain ⟨v,e1,hv,hcv,hlv⟩:=hok _ (List.getElem_mem hi)
    refine ⟨v,e1,hv,fun K hK=>qizve (fun s hs=>⟨hb v b s hs,?_⟩) (hPl v b) hcv L[i] rfl hK⟩
    rw [hlv]
    exact ((hP.gen v b s hs).ok g).2.2.k
  constructor
  · have key:loopM (qlwlp ((N,E,()),L,()) y28 (sq N.length P,())) ((0:Int),([]:List (List Int)),(),())=some (.inl (allM P b (L.take L.length),(),())):=by
      refine q9h1y L.length (fun i=>((i:Int),allM P b (L.take i),(),())) _ (fun i hi=>?_) ?_ (by simp [allM])
      · obtain ⟨v,e1,hv,hst⟩:=step i hi
        have hs:=(hst _ (hlen i)).1
        rw [qtop0 hi]
        unfold qlwlp
        simp only [dcT (show (i:Int) < (L.length:Int) by omega),cond_true,q1j71 hi,Option.bind_some,hy,e1,qv3ni hv hbn (show N.length≤16 by omega),qvra3,qv0oy hv hbn,Int.toNat_natCast,sq_get P hv hbn,hs,Sum.elim_inl,wrapS (show i < 9223372036854775807 by omega)]
      · unfold qlwlp
        simp only [dcF (show ¬ (L.length:Int) < (L.length:Int) by omega),cond_false]
    rw [List.take_length] at key
    exact key
  · have key:loopM (q4fia ((N,E,()),sq N.length P,L,()) y1) (([]:List (List Int)),(0:Int),())=some (.inl (allM P b (L.take L.length),())):=by
      refine q9h1y L.length (fun i=>(allM P b (L.take i),(i:Int),())) _ (fun i hi=>?_) ?_ (by simp [allM])
      · obtain ⟨v,e1,hv,hst⟩:=step i hi
        have hs:=(hst _ (hlen i)).2
        rw [qtop0 hi]
        unfold q4fia
        simp only [dcT (show (i:Int) < (L.length:Int) by omega),cond_true,q1j71 hi,Option.bind_some,hy1,e1,qv3ni hv hbn (show N.length≤16 by omega),qbvz0 P hv hbn,Int.toNat_natCast,hs,Sum.elim_inl,wrapS (show i < 9223372036854775807 by omega)]
      · unfold q4fia
        simp only [dcF (show ¬ (L.length:Int) < (L.length:Int) by omega),cond_false]
    rw [List.take_length] at key
    exact key
theorem qyj8w (g:GR N.length (depN N) (sumN N) (edN E)) {P:Tb} (hP:PF N.length (depN N) (sumN N) (edN E) P) (hb:∀ u v,∀ x∈P u v,bx x) {L:List Stp} (hok:∀ s∈L,∃ k:Nat,s.1=(k:Int)∧k < N.length∧chk s.2.1=0∧s.2.1.length=depN N k) {b:Nat}:∀ t∈allM P b L,chk t=0∧t.length=depN N b:=fun t ht=>by
  obtain ⟨s,hs,ht⟩:=List.mem_flatMap.1 ht
  obtain ⟨v,e1,hv,hcv,hlv⟩:=hok s hs
  obtain ⟨x,hx,rfl⟩:=List.mem_map.1 ht
  obtain ⟨hx,hz⟩:=List.mem_filter.1 hx
  rw [e1,Int.toNat_natCast] at hx
  have hsh:=((hP.gen v b x hx).ok g).2.2
  have h:=q1489 (hb v b x hx) hcv (by rw [hlv]; exact hsh.k) (of_decide_eq_true hz)
  exact ⟨h.1,by rw [h.2,hsh.o]⟩
theorem q6i2h (g:GR N.length (depN N) (sumN N) (edN E)) {P:Tb} (hP:PF N.length (depN N) (sumN N) (edN E) P) (hb:∀ u v,∀ x∈P u v,bx x) {L:List Stp} (hL:L.length≤64) (hok:∀ s∈L,∃ k:Nat,s.1=(k:Int)∧k < N.length∧chk s.2.1=0∧s.2.1.length=depN N k) :
    loopM (qka8t ((N,E,()),L,()) (sq N.length P,())) ((0:Int),List.replicate N.length ([]:List (List Int)),())=some (.inl (tab N.length (frontF P L),())) ∧
    qdbqw ((N,E,()),sq N.length P,L,())=some (tab N.length (frontF P L),()):=by
  have hn:=g.n12
  have hPl:∀ u v,(P u v).length≤154700:=fun u v=>q9iju (hP.an u v) (hb u v)
  have hl1:∀ b,q7qn0 (allM P b L,())=some (frontF P L b,()):=fun b=>by
    by_cases hbn:b < N.length
    · exact qr4o5 (qwh11 hPl b hL) (g.d1 b hbn).2 fun t ht=>(qyj8w g hP hb hok t ht).2
    · have:allM P b L=[]:=by
        rw [List.eq_nil_iff_forall_not_mem]
        intro t ht
        obtain ⟨s,hs,ht⟩:=List.mem_flatMap.1 ht
        obtain ⟨x,hx,rfl⟩:=List.mem_map.1 ht
        exact hbn ((hP.gen _ b x (List.mem_filter.1 hx).1).ok g).2.1
      unfold frontF
      rw [this]
      exact qr4o5 (l:=[]) (d:=0) (by simp) (by omega) fun t ht=>by cases ht
  have hl2:∀ b,b < N.length→qnum2 (allM P b L,())=some (frontF P L b,()):=fun b hbn=>by
    rw [q1ida (qwh11 hPl b hL) (qyj8w g hP hb hok)]
    unfold frontF
    rw [qc8is (qyj8w g hP hb hok)]
  constructor
  · refine q9h1y N.length (fun b=>((b:Int),tab N.length (fun c=>if c < b then frontF P L c else []),())) _ (fun b hbn=>?_) ?_ ?_
    · have hset:(tab N.length (fun c=>if c < b then frontF P L c else [])).set b (frontF P L b)=tab N.length (fun c=>if c < b+1 then frontF P L c else []):=by
        rw [qq0ob]
        refine qrnyd fun c hc=>?_
        by_cases h:c=b
        · rw [if_pos h,if_pos (by omega),h]
        · rw [if_neg h]
          by_cases h2:c < b
          · rw [if_pos h2,if_pos (by omega)]
          · rw [if_neg h2,if_neg (by omega)]
      unfold qka8t
      have hal:=fun y28 hy=>(qesj6 (N:=N) (E:=E) g hP hb hL hok hbn y28 hy ([],(b:Int),()) rfl).1
      simp only [List.length_replicate,Int.toNat_natCast,dcT (show (b:Int) < (N.length:Int) by omega),cond_true]
      rw [hal _ rfl]
      simp only [Option.bind_some,Sum.elim_inl,hl1,qnjur,inB_T hbn,cond_true,q1qpf _ hbn,hset,wrapS (show b < 9223372036854775807 by omega)]
    · unfold qka8t
      simp only [List.length_replicate,Int.toNat_natCast,dcF (show ¬ (N.length:Int) < (N.length:Int) by omega),cond_false]
      refine congrArg (fun z=>some (Sum.inr (Sum.inl (z,())))) (qrnyd fun c hc=>if_pos hc)
    · show (((0:Nat):Int),tab N.length (fun c=>if c < 0 then frontF P L c else []),())=_
      rw [show List.replicate N.length ([]:List (List Int))=tab N.length fun _=>[] from qeprz ..]
      refine congrArg (fun z=>((0:Int),z,())) (qrnyd fun c hc=>if_neg (by omega))
  · have key:loopM (qb9c2 ((N,E,()),sq N.length P,L,())) (([]:List (List (List Int))),(0:Int),())=some (.inl (tab N.length (frontF P L),())):=by
      refine q9h1y N.length (fun b=>(tab b (frontF P L),(b:Int),())) _ (fun b hbn=>?_) ?_ rfl
      · unfold qb9c2
        have hal:=fun y1 hy1=>(qesj6 (N:=N) (E:=E) g hP hb hL hok hbn ((b:Int),[],()) rfl y1 hy1).2
        simp only [dcT (show (b:Int) < (N.length:Int) by omega),cond_true]
        rw [hal _ rfl]
        simp only [Option.bind_some,Sum.elim_inl,hl2 b hbn,qnjur,List.length_cons,List.length_nil,qu8rx (show b+(0+1)≤140737488355328 by omega) (show (b+(0+1))*24≤140737488355328 by omega),Bool.and_true,cond_true,qtb9u,wrapS (show b < 9223372036854775807 by omega)]
      · unfold qb9c2
        simp only [dcF (show ¬ (N.length:Int) < (N.length:Int) by omega),cond_false]
    unfold qdbqw
    rw [key]; rfl
theorem qph2q {n:Nat} {f:Nat→List (List Int)} (hn:n≤12) (h:∀ b,b < n→(f b).length≤20000000∧∀ t∈f b,t.length≤1000000):q9crs (tab n f,tab n f,())=some (true,()):=by
  unfold q9crs
  have key:loopM (qbrqu (tab n f,tab n f,())) ((0:Int),())=some (if (List.range n).any (fun _=>false)=true then .inl (false,()) else .inr (.inl ())):=by
    refine q238v n () _ _ _ (fun i hi=>?_) ?_
    · unfold qbrqu
      simp only [qnjur,dcT (show (i:Int) < (n:Int) by omega),cond_true,qy56k hi,Option.bind_some,qk3pe (h i hi).1 (h i hi).2,Bool.not_true,cond_false,wrapS (show i < 9223372036854775807 by omega)]
      simp
    · unfold qbrqu
      simp only [qnjur,dcF (show ¬ (n:Int) < (n:Int) by omega),cond_false]
  have hany:(List.range n).any (fun _=>false)=false:=by rw [List.any_eq_false]; intro i _; simp
  rw [hany] at key
  simp only [bneF rfl,cond_false,key]
  rfl
theorem q6ju7 (L:List Stp) (hLb:L.length≤9223372036854775807):qp5hb ((N,E,()),L,())=some (true,()):=by
  have hcode:=qp37f (N:=N) (E:=E) L hLb L.length 0 (by omega)
  have i0:((0:Nat):Int)=0:=rfl
  rw [i0] at hcode
  simp only [List.drop_zero] at hcode
  by_cases h0:(gval N E).1=0
  · obtain ⟨P,hb,hP,hQ,h2,J,hi,hrun⟩:=qdkhp h0
    obtain ⟨e0,hn,hE,hN,hok,-⟩:=qr57u h0
    have g:=gr_of hn hN hok
    have hsq:=sq_le (n:=N.length) (by omega)
    have hi':loopM (qmiif ((N,E,()),L,())) (([]:List JbI),(0:Int),())=some (.inl (J,())):=hi
    have hrun':loopM (qil57 ((N,E,()),L,())) (J,List.replicate (N.length*N.length) ([]:List Sm),())=some (.inl (sq N.length P,())):=hrun
    have hpre:∀ z,qkrpw ((N,E,()),L,())=z↔(cond (decide ((L.length:Int) > (64:Int))) (some (([]:(List (List (List Int)))),(1:Int),())) ((loopM (qr7iy ((N,E,()),L,())) ((0:Int),())).bind (Sum.elim (fun z26=>(some z26)) (Sum.elim (fun z27=>((loopM (qka8t ((N,E,()),L,()) (sq N.length P,())) ((0:Int),(List.replicate N.length ([]:(List (List Int)))),())).bind (Sum.elim (fun z40=>(some (z40.1,(0:Int),()))) Empty.elim))) Empty.elim))))=z:=fun z=>by
      unfold qkrpw
      simp only [q9a5b,e0,Option.bind_some,bneF (show (0:Int)=0 from rfl),cond_false,qep0l (n:=N.length) (by omega),dcT (show (0:Int)≤((N.length*N.length:Nat):Int) by omega),dcT (show ((N.length*N.length:Nat):Int)≤((N.length*N.length:Nat):Int) by omega),Int.toNat_natCast,qu8rx (show N.length*N.length≤140737488355328 by omega) (show N.length*N.length*24≤140737488355328 by omega),dcT (show ((N.length*N.length:Nat):Int)≤9223372036854775807 by omega),Bool.and_self,cond_true,hi',Sum.elim_inl,hrun',dcT (show (0:Int)≤(N.length:Int) by omega),dcT (show (N.length:Int)≤(N.length:Int) by omega),qu8rx (show N.length≤140737488355328 by omega) (show N.length*24≤140737488355328 by omega),dcT (show (N.length:Int)≤9223372036854775807 by omega)]
    by_cases hL:64 < L.length
    · have hm:qkrpw ((N,E,()),L,())=some ([],1,()):=by
        rw [hpre,dcT (show (L.length:Int) > 64 by omega)]; rfl
      unfold qp5hb
      simp only [hm,q2f60,e0,Option.bind_some,beqT (show (0:Int)=0 from rfl),cond_true,dcT (show (L.length:Int) > 64 by omega),Sum.elim_inl,hcode,qz9zo (show (1:Int)≠0 by omega),bneT (show ¬ (1:Int)=0 by omega),beqT (show (1:Int)=1 from rfl)]
      rfl
    · have hL':L.length≤64:=by omega
      have hsc:=qru0v (N:=N) (E:=E) L hL'
      have hcc:codeL N 0 L=(qfzl9 N L).getD 0:=qm3d5 L
      cases hst:qfzl9 N L with
      | some c =>
        rw [hst] at hsc hcc
        have hc0:c≠0:=by
          obtain ⟨s,-,h⟩:=List.exists_of_findSome?_eq_some hst
          split at h
          · cases h
          · rename_i h'; cases h; exact h'
        have hm:qkrpw ((N,E,()),L,())=some ([],c,()):=by
          rw [hpre,dcF (show ¬ (L.length:Int) > 64 by omega),cond_false,hsc,Option.map_some,q6jw0]; rfl
        unfold qp5hb
        simp only [hm,q2f60,e0,Option.bind_some,beqT (show (0:Int)=0 from rfl),cond_true,dcF (show ¬ (L.length:Int) > 64 by omega),Sum.elim_inl,cond_false,hcode,hcc,Option.getD_some,bneT hc0,beqT (rfl:c=c)]
        rfl
      | none =>
        rw [hst] at hsc hcc
        have hall:=q0rt0 hN hst
        obtain ⟨m1,m2⟩:=q6i2h g hP hb hL' hall
        have hm:qkrpw ((N,E,()),L,())=some (tab N.length (frontF P L),0,()):=by
          rw [hpre,dcF (show ¬ (L.length:Int) > 64 by omega),cond_false,hsc,Option.map_none,qp01l,Option.bind_some,Sum.elim_inr,Sum.elim_inl,m1]; rfl
        have hPl:∀ u v,(P u v).length≤154700:=fun u v=>q9iju (hP.an u v) (hb u v)
        have hfs:=qph2q (n:=N.length) (f:=frontF P L) hn fun b hbn=>by
          obtain ⟨s1,s2,s3⟩:=qzjcq (allM P b L)
          unfold frontF
          rw [qc8is (qyj8w g hP hb hall)]
          have:=qwh11 hPl b hL'
          refine ⟨Nat.le_trans (List.length_filter_le _ _) (by omega),fun t ht=>?_⟩
          have:=(qyj8w g hP hb hall t ((s2 t).1 (List.mem_filter.1 ht).1)).2
          have:=(g.d1 b hbn).2
          omega
        unfold qp5hb
        simp only [hm,q2f60,e0,Option.bind_some,beqT (show (0:Int)=0 from rfl),cond_true,dcF (show ¬ (L.length:Int) > 64 by omega),Sum.elim_inl,cond_false,hcode,hcc,Option.getD_none,bneF (show (0:Int)=0 from rfl),h2,m2,hfs]
  · have hm:qkrpw ((N,E,()),L,())=some ([],(gval N E).1,()):=by
      unfold qkrpw
      simp only [q9a5b,Option.bind_some,bneT h0,cond_true]
    have hcode':loopM (qw4j7 ((N,E,()),L,())) ((gval N E).1,(0:Int),())=some (.inl (codeL N (gval N E).1 L,())):=hcode _
    unfold qp5hb
    simp only [hm,q2f60,Option.bind_some,beqF h0,cond_false,Sum.elim_inl,hcode',qz9zo h0,bneT h0,cond_true,beqT (rfl:(gval N E).1=(gval N E).1)]
    rfl
end
theorem reachFronts_law (x:ADen sp4.args) (h:WfA sp4.args x):qp5hb x=some (true,()):=by
  obtain ⟨⟨N,E,⟨⟩⟩,L,⟨⟩⟩:=x
  exact q6ju7 L (show L.length≤maxLen from h.2.1.1)
end Go.Proofs.Tryz
