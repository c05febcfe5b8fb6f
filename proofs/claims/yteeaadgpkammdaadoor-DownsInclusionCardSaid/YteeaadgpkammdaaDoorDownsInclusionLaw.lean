/- The plain law of DownsInclusion. -/
import Derived.Test.YteeaadgpkammdaaDoorD9Funs
import Derived.Test.YteeaadgpkammdaaDoorAbsSums
import Derived.Test.YteeaadgpkammdaaDoorD9LemmasDownsInclusion1
namespace Go.Proofs.Tryd
open Go Go.Abs

theorem downsInclusion {N:Int} {ws:List Nat} (hf:Fit ws):law_DownsInclusion ((N,cl ws,()),())=some (true,()):=by
  unfold law_DownsInclusion
  rw [downs_Inclusion_eq hf,ref_OrderCheck_eq hf]
  simp only [Option.bind_some]
  have hz:ref_Orders ((0,[],()),(0,[],()),())=some (true,()):=ref_Orders_same (by simp)
  by_cases h:ordc N ws=0
  · obtain ⟨h1,h2,h3,hin,o⟩:=ordc_zero h
    obtain ⟨n,rfl⟩:=Int.eq_ofNat_of_zero_le h1
    have hl:ws.length=n:=by omega
    have hn:n≤16:=by omega
    have hr:ref_DownsAll (((n:Int),cl ws,()),(16:Int),())=_:=ref_DownsAll_eq hf hl hn (most:=16) (by omega)
    rw [h,if_pos rfl,bneF rfl,cond_false,hr,Int.toNat_natCast]
    simp only [Option.bind_some]
    by_cases h16:(downL n ws).length≤16
    · rw [if_pos h16,dcF (by omega),cond_false,beqT rfl,cond_true,List.take_of_length_le h16,ref_Inclusion_eq (fit_downL hn) rfl h16]
      simp only [Option.bind_some]
      rw [ref_Orders_same (by rw [cl_length,tab_length]; omega)]
      rfl
    · rw [if_neg h16,dcT (by omega),cond_true,beqT rfl,cond_true,hz]
      rfl
  · rw [if_neg h,bneT h,cond_true,beqT rfl,cond_true,hz]
    rfl
theorem downsInclusion_law (x:ADen sp4.args) (h:WfA sp4.args x):law_DownsInclusion x=some (true,()):=by
  obtain ⟨⟨N,l,⟨⟩⟩,⟨⟩⟩:=x
  obtain ⟨ws,rfl,hf⟩:=words_of h.1.2.1
  exact downsInclusion hf
end Go.Proofs.Tryd
