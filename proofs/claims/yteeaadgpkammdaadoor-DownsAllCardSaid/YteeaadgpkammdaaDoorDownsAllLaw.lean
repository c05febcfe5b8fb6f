/- The plain law of DownsAll. -/
import Derived.Test.YteeaadgpkammdaaDoorD9Funs
import Derived.Test.YteeaadgpkammdaaDoorAbsSums
import Derived.Test.YteeaadgpkammdaaDoorD9LemmasDownsAll1
namespace Go.Proofs.Tryd
open Go Go.Abs

theorem downsAll {N:Int} {ws:List Nat} (hf:Fit ws):law_DownsAll ((N,cl ws,()),())=some (true,()):=by
  unfold law_DownsAll
  rw [downs_All_eq hf,downs_Count_eq hf,ref_OrderCheck_eq hf]
  simp only [Option.bind_some]
  by_cases h:ordc N ws=0
  · obtain ⟨h1,h2,h3,hin,o⟩:=ordc_zero h
    obtain ⟨n,rfl⟩:=Int.eq_ofNat_of_zero_le h1
    have hl:ws.length=n:=by omega
    have hn:n≤16:=by omega
    have hr:=ref_DownsAll_eq hf hl hn (most:=256) (by omega)
    have hr:ref_DownsAll (((n:Int),cl ws,()),(256:Int),())=_:=hr
    rw [h,if_pos rfl,if_pos rfl,bneF rfl,cond_false,hr,Int.toNat_natCast]
    simp only [Option.bind_some]
    rw [bneF rfl,cond_false,cond_false]
    by_cases hle:(downL n ws).length≤256
    · rw [if_pos hle,dcF (by omega),cond_false,beqT rfl,cond_true,List.take_of_length_le hle,ref_Words_same (by rw [cl_length]; omega)]
      rfl
    · rw [if_neg hle,dcT (by omega),cond_true,beqT rfl,cond_true]
      rfl
  · rw [if_neg h,if_neg h,bneT h,cond_true,beqT rfl,cond_true,cond_true]
    rfl
theorem downsAll_law (x:ADen sp3.args) (h:WfA sp3.args x):law_DownsAll x=some (true,()):=by
  obtain ⟨⟨N,l,⟨⟩⟩,⟨⟩⟩:=x
  obtain ⟨ws,rfl,hf⟩:=words_of h.1.2.1
  exact downsAll hf
end Go.Proofs.Tryd
