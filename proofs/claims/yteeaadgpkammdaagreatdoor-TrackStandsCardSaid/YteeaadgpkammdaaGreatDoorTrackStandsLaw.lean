/- The plain law of TrackStands. -/
import Derived.Test.YteeaadgpkammdaaGreatDoorZTFuns
import Derived.Test.YteeaadgpkammdaaGreatDoorAbsSums
import Derived.Test.YteeaadgpkammdaaGreatDoorZTLemmasTrackStands5
namespace Go.Proofs.Tryz
open Go Go.Abs

section
variable {N:List C1} {E:List Edge}
theorem y80 {L:List Mk} {c:Int} (h:q0b N L=some c):c≠0:=by
 obtain⟨s,-,h⟩:=List.exists_of_findSome?_eq_some h
 split at h
 ·cases h
 ·rename_i h';cases h;exact h'
theorem y1l (L:List Mk):q3d ((N,E,()),L,())=some (true,()):=by
 have hz:q84 (([]:List Mk),([]:List Mk),())=some (true,()):=j1i (by simp) (fun _ h=>by cases h)
 by_cases h0:(O6 N E).1=0
 ·obtain⟨P,hb,hP,hQ,h2,J,hi,hrun⟩:=v2g h0
  obtain⟨e0,hn,hE,hN,hok,-⟩:=z1e h0
  have g:=z0x hn hN hok
  have hsq:=q5k (n:=N.length) (by omega)
  have hi1:A2 (y0n ((N,E,()),L,())) (([]:List JbI),(0:Int),())=some (.inl (J,())):=hi
  have hr1:A2 (y0o ((N,E,()),L,())) (J,List.replicate (N.length*N.length) ([]:List Sm),())=some (.inl (sq N.length P,())):=hrun
  have hi2:A2 (y0j ((N,E,()),L,())) (([]:List JbI),(0:Int),())=some (.inl (J,())):=hi
  have hr2:A2 (y0k ((N,E,()),L,())) (J,List.replicate (N.length*N.length) ([]:List Sm),())=some (.inl (sq N.length P,())):=hrun
  have hd4:∀ k,k<N.length->B5 N k<=4:=fun k hk=>(g.d1 k hk).2
  have hpre:∀ z,q1l ((N,E,()),L,())=z↔(cond (decide ((L.length:Int)>(64:Int))) (some (([]:List Mk),(1:Int),())) ((A2 (j16 ((N,E,()),L,())) ((0:Int),[],())).bind (Sum.elim (fun z31=>(some (([]:List Mk),z31.1,()))) (Sum.elim (fun z32=>((q1k z32).bind fun r33=>(some (r33.1,(0:Int),())))) Empty.elim))))=z:=fun z=>by
   unfold q1l
   simp only[z0z,e0,Option.bind_some,L1 (show(0:Int)=0 from rfl),cond_false,q96 (n:=N.length) (by omega),dcT (show(0:Int)<=((N.length*N.length:Nat):Int)by omega),dcT (show((N.length*N.length:Nat):Int)<=((N.length*N.length:Nat):Int)by omega),Int.toNat_natCast,G3 (show N.length*N.length<=140737488355328 by omega) (show N.length*N.length*24<=140737488355328 by omega),dcT (show((N.length*N.length:Nat):Int)<=9223372036854775807 by omega),Bool.and_self,cond_true,hi1,Sum.elim_inl,hr1]
  have hpre2:∀ z,q1j ((N,E,()),L,())=z↔(cond (decide ((L.length:Int)>(64:Int))) (some (([]:List (List (List Int))),(1:Int),())) ((A2 (j15 ((N,E,()),L,())) ((0:Int),[],())).bind (Sum.elim (fun z38=>(cond (z38.1 != (0:Int)) (some (([]:(List (List (List Int)))),z38.1,())) ((A2 (y0l) (([]:(List (Int×((List Int)×Unit)))),(0:Int),())).bind (Sum.elim (fun z40=>((A2 (y0i ((N,E,()),L,()) z40 (sq N.length P,())) ((0:Int),(List.replicate N.length ([]:(List (List Int)))),())).bind (Sum.elim (fun z53=>(some (z53.1,(0:Int),()))) Empty.elim))) Empty.elim))))
    (Sum.elim (fun z54=>((q1k z54).bind fun r55=>((A2 (q5t r55) (([]:List Stp),(0:Int),())).bind (Sum.elim (fun z60=>((A2 (q9h ((N,E,()),L,()) z60 (sq N.length P,())) ((0:Int),(List.replicate N.length ([]:(List (List Int)))),())).bind (Sum.elim (fun z205=>(some (z205.1,(0:Int),()))) Empty.elim))) Empty.elim)))) Empty.elim))))=z:=fun z=>by
   unfold q1j
   simp only[z0z,e0,Option.bind_some,L1 (show(0:Int)=0 from rfl),cond_false,q96 (n:=N.length) (by omega),dcT (show(0:Int)<=((N.length*N.length:Nat):Int)by omega),dcT (show((N.length*N.length:Nat):Int)<=((N.length*N.length:Nat):Int)by omega),Int.toNat_natCast,G3 (show N.length*N.length<=140737488355328 by omega) (show N.length*N.length*24<=140737488355328 by omega),dcT (show((N.length*N.length:Nat):Int)<=9223372036854775807 by omega),Bool.and_self,cond_true,hi2,Sum.elim_inl,hr2,dcT (show(0:Int)<=(N.length:Int)by omega),dcT (show(N.length:Int)<=(N.length:Int)by omega),G3 (show N.length<=140737488355328 by omega) (show N.length*24<=140737488355328 by omega),dcT (show(N.length:Int)<=9223372036854775807 by omega)]
  have hmc:=y1f (N:=N) (E:=E) L
  by_cases hL:64<L.length
  ·have hm:q1l ((N,E,()),L,())=some ([],1,()):=by
    rw[hpre,dcT (show(L.length:Int)>64 by omega)];rfl
   have hm2:q1j ((N,E,()),L,())=some ([],1,()):=by
    rw[hpre2,dcT (show(L.length:Int)>64 by omega)];rfl
   rw[if_pos hL]at hmc
   unfold q3d
   simp only[hm,hm2,z2u,e0,hmc,Option.bind_some,N2 (show(0:Int)=0 from rfl),cond_true,Sum.elim_inl,R4 (show ¬ (1:Int)=0 by omega),N2 (show(1:Int)=1 from rfl)]
   rfl
  ·have hL':L.length<=64:=by omega
   rw[if_neg (by omega)]at hmc
   obtain⟨m',hkn⟩:=y7d (N:=N) (E:=E) L hL'
   rw[v6c]at hpre
   rw[v6b]at hpre2
   cases hst:q0b N L with
   | some c =>
    rw[hst]at hkn hmc
    have hc0:=y80 hst
    have hm:q1l ((N,E,()),L,())=some ([],c,()):=by
     rw[hpre,dcF (show ¬ (L.length:Int)>64 by omega),cond_false,hkn];rfl
    have hm2:q1j ((N,E,()),L,())=some ([],c,()):=by
     rw[hpre2,dcF (show ¬ (L.length:Int)>64 by omega),cond_false,hkn]
     simp only[Option.bind_some,Sum.elim_inl]
     rw[R4 hc0];rfl
    unfold q3d
    simp only[hm,hm2,z2u,e0,hmc,Option.getD_some,Option.bind_some,N2 (show(0:Int)=0 from rfl),cond_true,Sum.elim_inl,R4 hc0,N2 (rfl:c=c)]
    rfl
   | none =>
    rw[hst]at hkn hmc
    have hall:=y8g hN hst
    have ok:OkL N.length (B5 N) L:=fun r hr=>by
     obtain⟨k,h1,h2,_,h4⟩:=hall r hr
     exact⟨k,h1,h2,h4⟩
    have hMk:=y1g ok hd4 hL'
    have hm:q1l ((N,E,()),L,())=some (F2 N.length L,0,()):=by
     rw[hpre,dcF (show ¬ (L.length:Int)>64 by omega),cond_false,hkn]
     simp only[Option.bind_some,Sum.elim_inr,Sum.elim_inl,hMk]
    have hRl:(F2 N.length L).length<=64:=by
     have h1:=z6e L []
     rw[j2b ok hd4,List.length_map]at h1
     simp at h1;omega
    have hdeep:∀ q∈F2 N.length L,∃ k:Nat,q.1=(k:Int)/\k<N.length/\chk q.2.1=0/\q.2.1.length=B5 N k:=fun q hq=>by
     obtain⟨v,h1,h2,h3,h4⟩:=j0s ok hq
     obtain⟨r,hr,h5,h6⟩:=mem_timesAt.1 h4
     obtain⟨k,_,_,h7,_⟩:=hall r hr
     exact⟨v,h1,h2,by rw[<-h6];exact h7,h3⟩
    have hSl:(q2u (F2 N.length L)).length<=64:=Nat.le_trans (v5c _) hRl
    have hSok:∀ s∈q2u (F2 N.length L),∃ k:Nat,s.1=(k:Int)/\k<N.length/\chk s.2.1=0/\s.2.1.length=B5 N k:=fun s hs=>by
     obtain⟨q,hq,h1⟩:=List.mem_filterMap.1 hs
     unfold V5 at h1
     split at h1
     ·cases h1;exact hdeep q hq
     ·cases h1
    obtain⟨m1,m2⟩:=y6i (N:=N) (E:=E) (L0:=L) g hP hb hSl hSok
    have h12:=v4y (R:=F2 N.length L) (by omega)
    have hm2:q1j ((N,E,()),L,())=some (tab N.length (N6 P (q2u (F2 N.length L))),0,()):=by
     rw[hpre2,dcF (show ¬ (L.length:Int)>64 by omega),cond_false,hkn]
     simp only[Option.bind_some,Sum.elim_inr,Sum.elim_inl,hMk,h12,m1]
    have hPl:∀ u v,(P u v).length<=154700:=fun u v=>q31 (hP.an u v) (hb u v)
    have hfs:=y6j (n:=N.length) (f:=N6 P (q2u (F2 N.length L))) hn fun b hbn=>by
     obtain⟨s1,s2,s3⟩:=V3 (I5 P b (q2u (F2 N.length L)))
     unfold N6
     rw[j4i (q64 g hP hb hSok)]
     have:=q9r hPl b hSl
     refine⟨Nat.le_trans (List.length_filter_le _ _) (by omega),fun t ht=>?_⟩
     have:=(q64 g hP hb hSok t ((s2 t).1 (List.mem_filter.1 ht).1)).2
     have:=(g.d1 b hbn).2
     omega
    have hrs:=v55 (N:=N) (E:=E) L hL' hn hall hd4
    have hms:=j1i (R:=F2 N.length L) (by omega) fun q hq=>by
     obtain⟨k,_,hk,_,hl⟩:=hdeep q hq
     have:=hd4 k hk;omega
    have hts:=y1k (R:=F2 N.length L) (by omega)
    unfold q3d
    simp only[hm,hm2,z2u,e0,hmc,Option.getD_none,Option.bind_some,N2 (show(0:Int)=0 from rfl),cond_true,Sum.elim_inl,L1 (show(0:Int)=0 from rfl),cond_false,hrs,hms,h2,hts,m2,hfs]
 ·have hm:q1l ((N,E,()),L,())=some ([],(O6 N E).1,()):=by
   unfold q1l
   simp only[z0z,Option.bind_some,R4 h0,cond_true]
  have hm2:q1j ((N,E,()),L,())=some ([],(O6 N E).1,()):=by
   unfold q1j
   simp only[z0z,Option.bind_some,R4 h0,cond_true]
  unfold q3d
  simp only[hm,hm2,z2u,Option.bind_some,q03 h0,cond_false,Sum.elim_inl,R4 h0,cond_true,N2 (rfl:(O6 N E).1=(O6 N E).1)]
  rfl
end
theorem trackStands_law (x:I4 sp4.args) (h:WfA sp4.args x):q3d x=some (true,()):=by
 obtain⟨⟨N,E,⟨⟩⟩,L,⟨⟩⟩:=x
 exact y1l L
end Go.Proofs.Tryz
