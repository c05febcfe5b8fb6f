/- Words as sets of bits, for the plain laws: the machine's operations on words that are natural numbers; the loop over a word's bits. -/
import Derived.Test.YteeaadgpkammdaaDoorAbsLoops
namespace Go.Abs
open Go
theorem wrap_u32 {n:Nat} (h:n < 2 ^ 32):IntKind.u32.wrap (n:Int)=(n:Int):=by
  unfold IntKind.wrap; simp [IntKind.bits,IntKind.signed]; omega
theorem wrap_u64 {n:Nat} (h:n < 2 ^ 64):IntKind.u64.wrap (n:Int)=(n:Int):=by
  unfold IntKind.wrap; simp [IntKind.bits,IntKind.signed]; omega
theorem ofInt_nat (k n:Nat):BitVec.ofInt k (n:Int)=BitVec.ofNat k n:=by
  apply BitVec.eq_of_toNat_eq; simp [BitVec.toNat_ofNat]
theorem and_u32 {a b:Nat} (ha:a < 2 ^ 32) (hb:b < 2 ^ 32):bitsI .and .u32 (a:Int) (b:Int)=((a &&& b:Nat):Int):=by
  show IntKind.u32.wrap ((BitVec.ofInt 32 (a:Int) &&& BitVec.ofInt 32 (b:Int)).toNat:Int)=_
  rw [ofInt_nat,ofInt_nat,BitVec.toNat_and,BitVec.toNat_ofNat,BitVec.toNat_ofNat,Nat.mod_eq_of_lt ha,Nat.mod_eq_of_lt hb,wrap_u32 (Nat.and_lt_two_pow _ hb)]
theorem or_u32 {a b:Nat} (ha:a < 2 ^ 32) (hb:b < 2 ^ 32):bitsI .or .u32 (a:Int) (b:Int)=((a ||| b:Nat):Int):=by
  show IntKind.u32.wrap ((BitVec.ofInt 32 (a:Int) ||| BitVec.ofInt 32 (b:Int)).toNat:Int)=_
  rw [ofInt_nat,ofInt_nat,BitVec.toNat_or,BitVec.toNat_ofNat,BitVec.toNat_ofNat,Nat.mod_eq_of_lt ha,Nat.mod_eq_of_lt hb,wrap_u32 (Nat.or_lt_two_pow ha hb)]
theorem and_u64 {a b:Nat} (ha:a < 2 ^ 64) (hb:b < 2 ^ 64):bitsI .and .u64 (a:Int) (b:Int)=((a &&& b:Nat):Int):=by
  show IntKind.u64.wrap ((BitVec.ofInt 64 (a:Int) &&& BitVec.ofInt 64 (b:Int)).toNat:Int)=_
  rw [ofInt_nat,ofInt_nat,BitVec.toNat_and,BitVec.toNat_ofNat,BitVec.toNat_ofNat,Nat.mod_eq_of_lt ha,Nat.mod_eq_of_lt hb,wrap_u64 (Nat.and_lt_two_pow _ hb)]
def dif (a b:Nat):Nat:=a ^^^ (a &&& b)
theorem dif_bit (a b i:Nat):(dif a b).testBit i=(a.testBit i && !b.testBit i):=by
  unfold dif; rw [Nat.testBit_xor,Nat.testBit_and]; cases a.testBit i <;> cases b.testBit i <;> rfl
theorem dif_lt {a b k:Nat} (h:a < 2 ^ k):dif a b < 2 ^ k :=
  Nat.xor_lt_two_pow h (Nat.lt_of_le_of_lt Nat.and_le_left h)
theorem not_u32 {a b:Nat} (ha:a < 2 ^ 32) (_:b < 2 ^ 32):bitsI .andNot .u32 (a:Int) (b:Int)=((dif a b:Nat):Int):=by
  show IntKind.u32.wrap ((BitVec.ofInt 32 (a:Int) &&& ~~~ BitVec.ofInt 32 (b:Int)).toNat:Int)=_
  have e:(BitVec.ofInt 32 (a:Int) &&& ~~~ BitVec.ofInt 32 (b:Int)).toNat=dif a b:=by
    apply Nat.eq_of_testBit_eq
    intro i
    rw [dif_bit,BitVec.testBit_toNat,BitVec.getLsbD_and,BitVec.getLsbD_not,ofInt_nat,ofInt_nat,BitVec.getLsbD_ofNat,BitVec.getLsbD_ofNat]
    by_cases h:i < 32
    · simp [h]
    · have:a.testBit i=false:=Nat.testBit_lt_two_pow (Nat.lt_of_lt_of_le ha (Nat.pow_le_pow_right (by decide) (by omega)))
      simp [h,this]
  rw [e,wrap_u32 (dif_lt ha)]
theorem shl_u32 {i:Nat} (h:i < 32):shlI .u32 1 (i:Int)=((2 ^ i:Nat):Int):=by
  show IntKind.u32.wrap (1*2 ^ (min ((i:Int).toNat) 32))=_
  rw [Int.toNat_natCast,Nat.min_eq_left (by omega),Int.one_mul]
  have:((2:Int) ^ i)=((2 ^ i:Nat):Int):=by simp
  rw [this,wrap_u32 (Nat.pow_lt_pow_right (by decide) h)]
theorem shl_u32_big {i:Nat} (h:32≤i):shlI .u32 1 (i:Int)=0:=by
  show IntKind.u32.wrap (1*2 ^ (min ((i:Int).toNat) 32))=_
  rw [Int.toNat_natCast,Nat.min_eq_right (by omega)]
  decide
theorem shr_u32 (a i:Nat) (h:a < 2 ^ 32):shrI .u32 (a:Int) (i:Int)=((a >>> i:Nat):Int):=by
  show Int.fdiv (a:Int) (2 ^ (min ((i:Int).toNat) 32))=_
  rw [Int.toNat_natCast,Nat.shiftRight_eq_div_pow,show ((2:Int) ^ (min i 32))=((2 ^ (min i 32):Nat):Int) by simp,Int.fdiv_eq_ediv_of_nonneg _ (Int.natCast_nonneg _),←Int.natCast_ediv]
  by_cases hi:i≤32
  · rw [Nat.min_eq_left hi]
  · rw [Nat.min_eq_right (by omega),Nat.div_eq_of_lt h,Nat.div_eq_of_lt (Nat.lt_of_lt_of_le h (Nat.pow_le_pow_right (by decide) (by omega)))]
theorem bit_lt {a k i:Nat} (ha:a < 2 ^ k) (h:a.testBit i=true):i < k:=by
  by_cases hi:i < k
  · exact hi
  · rw [Nat.testBit_lt_two_pow (Nat.lt_of_lt_of_le ha (Nat.pow_le_pow_right (by decide) (by omega)))] at h; cases h
theorem bit_hi {a k i:Nat} (ha:a < 2 ^ k) (hi:k≤i):a.testBit i=false :=
  Nat.testBit_lt_two_pow (Nat.lt_of_lt_of_le ha (Nat.pow_le_pow_right (by decide) hi))
theorem has_u32 {a:Nat} (i:Nat) (h:a < 2 ^ 32):(bitsI .and .u32 (shrI .u32 (a:Int) (i:Int)) 1 == 1)=a.testBit i:=by
  have h1:a >>> i < 2 ^ 32:=Nat.lt_of_le_of_lt (by rw [Nat.shiftRight_eq_div_pow]; exact Nat.div_le_self _ _) h
  rw [shr_u32 a i h,show (1:Int)=((1:Nat):Int) from rfl,and_u32 h1 (by decide),Nat.testBit,Nat.and_comm]
  rcases Nat.mod_two_eq_zero_or_one (a >>> i) with e | e
  · have:1 &&& (a >>> i)=0:=by rw [Nat.and_comm,Nat.and_one_is_mod,e]
    rw [this]; rfl
  · have:1 &&& (a >>> i)=1:=by rw [Nat.and_comm,Nat.and_one_is_mod,e]
    rw [this]; rfl
theorem and_pow (a i:Nat):a &&& 2 ^ i=if a.testBit i=true then 2 ^ i else 0:=by
  apply Nat.eq_of_testBit_eq
  intro j
  rw [Nat.testBit_and,Nat.testBit_two_pow]
  by_cases h:i=j
  · subst h; cases ha:a.testBit i <;> simp
  · by_cases hb:a.testBit i=true <;> simp [h,hb]
theorem cast_bne (a b:Nat):(((a:Int)) != ((b:Int)))=!decide (a=b):=by
  by_cases h:a=b
  · simp [h]
  · have:(a:Int)≠(b:Int):=by omega
    rw [bne_iff_ne.2 this]; simp [h]
theorem bit_u32 {a:Nat} (i:Nat) (h:a < 2 ^ 32):(bitsI .and .u32 (a:Int) (shlI .u32 1 (i:Int)) != 0)=a.testBit i:=by
  by_cases hi:i < 32
  · rw [shl_u32 hi,and_u32 h (Nat.pow_lt_pow_right (by decide) hi),and_pow,show (0:Int)=((0:Nat):Int) from rfl,cast_bne]
    have:0 < 2 ^ i:=Nat.two_pow_pos i
    by_cases hb:a.testBit i=true
    · rw [if_pos hb,hb]; simp
    · rw [if_neg hb]; simp at hb; simp [hb]
  · rw [shl_u32_big (by omega),bit_hi h (by omega),show (0:Int)=((0:Nat):Int) from rfl,and_u32 h (by decide),Nat.and_zero]; rfl
theorem all_u32 {n:Nat} (h:n≤32):IntKind.u32.wrap (shlI .u32 1 (n:Int) - 1)=((2 ^ n - 1:Nat):Int):=by
  by_cases hn:n < 32
  · rw [shl_u32 hn,show ((2 ^ n:Nat):Int) - 1=((2 ^ n - 1:Nat):Int) by have:=Nat.two_pow_pos n; omega]
    have h2:2 ^ n < 2 ^ 32:=Nat.pow_lt_pow_right (by decide) hn
    exact wrap_u32 (by omega)
  · have:n=32:=by omega
    subst this; rw [shl_u32_big (by decide)]; decide
theorem dif_zero {a b:Nat}:dif a b=0↔∀ i,a.testBit i=true→b.testBit i=true:=by
  constructor
  · intro h i hi
    have:=dif_bit a b i
    rw [h,Nat.zero_testBit,hi] at this
    cases hb:b.testBit i
    · rw [hb] at this; cases this
    · rfl
  · intro h
    apply Nat.eq_of_testBit_eq
    intro i
    rw [dif_bit,Nat.zero_testBit]
    cases ha:a.testBit i
    · rfl
    · rw [h i ha]; rfl
theorem odd_part:∀ v:Nat,0 < v→∃ r q,v=2 ^ r*(2*q+1):=by
  intro v
  induction v using Nat.strongRecOn with
  | _ v ih =>
    intro hv
    rcases Nat.mod_two_eq_zero_or_one v with h | h
    · obtain ⟨r,q,e⟩:=ih (v / 2) (by omega) (by omega)
      refine ⟨r+1,q,?_⟩
      have:v=2*(v / 2):=by omega
      rw [this,e,Nat.pow_succ]; rw [Nat.mul_comm (2 ^ r) 2,Nat.mul_assoc]
    · exact ⟨0,v / 2,by simp; omega⟩
theorem odd_bit (r q i:Nat):(2 ^ r*(2*q+1)).testBit i=(decide (r=i) || decide (r < i) && q.testBit (i - r - 1)):=by
  rw [Nat.testBit_two_pow_mul]
  by_cases h:r=i
  · subst h; simp
  · by_cases h2:r < i
    · obtain ⟨d,rfl⟩:∃ d,i=r+d+1:=⟨i - r - 1,by omega⟩
      have e1:r+d+1 - r=d+1:=by omega
      have e2:r+d+1 - r - 1=d:=by omega
      have e3:(2*q+1) / 2=q:=by omega
      rw [e2,e1,Nat.testBit_succ,e3]
      simp [h,h2]; omega
    · have:¬ r≤i:=by omega
      simp [h,h2,this]
theorem low_and (r q:Nat):(2 ^ r*(2*q+1)) &&& (2 ^ r*(2*q+1) - 1)=2 ^ r*(2*q):=by
  have hp:=Nat.two_pow_pos r
  have e:2 ^ r*(2*q+1) - 1=2 ^ r*(2*q)+(2 ^ r - 1):=by rw [Nat.mul_add]; omega
  apply Nat.eq_of_testBit_eq
  intro i
  rw [Nat.testBit_and,odd_bit,e,Nat.testBit_two_pow_mul_add _ (by omega),Nat.testBit_two_pow_mul]
  by_cases h:r=i
  · subst h; simp
  · by_cases h2:r < i
    · obtain ⟨d,rfl⟩:∃ d,i=r+d+1:=⟨i - r - 1,by omega⟩
      have e1:r+d+1 - r=d+1:=by omega
      have e2:r+d+1 - r - 1=d:=by omega
      have e4:¬ r+d+1 < r:=by omega
      have e5:(2*q).testBit (d+1)=q.testBit d:=by rw [Nat.testBit_succ,show 2*q / 2=q by omega]
      rw [if_neg e4,e2,e1,e5,decide_eq_false h,decide_eq_true h2,decide_eq_true (show r+d+1 ≥ r by omega)]
      simp
    · have:¬ r≤i:=by omega
      simp [h,h2,this]
theorem low_one {r q:Nat} (h:2 ^ r*(2*q+1) < 2 ^ 64):(2 ^ r*(2*q+1)) &&& (2 ^ 64 - 2 ^ r*(2*q+1))=2 ^ r:=by
  have hr:r < 64:=bit_lt h (by rw [odd_bit]; simp)
  obtain ⟨m,hm⟩:∃ m,64=r+m+1:=⟨64 - r - 1,by omega⟩
  have e64:2 ^ 64=2 ^ r*(2*2 ^ m):=by rw [hm,Nat.pow_add,Nat.pow_add]; rw [Nat.pow_one,Nat.mul_assoc,Nat.mul_comm (2 ^ m) 2]
  have hq:q < 2 ^ m:=by
    rw [e64] at h
    have:=Nat.lt_of_mul_lt_mul_left h
    omega
  have e:2 ^ 64 - 2 ^ r*(2*q+1)=2 ^ r*(2*(2 ^ m - (q+1))+1):=by
    rw [e64,←Nat.mul_sub]
    congr 1
    omega
  apply Nat.eq_of_testBit_eq
  intro i
  rw [Nat.testBit_and,e,odd_bit,odd_bit,Nat.testBit_two_pow_sub_succ hq,Nat.testBit_two_pow]
  by_cases h1:r=i
  · subst h1; simp
  · by_cases h2:r < i
    · simp [h1,h2]; intro hb _; exact hb
    · simp [h1,h2]
def bitsL (v:Nat):List Nat:=(List.range 64).filter fun i=>v.testBit i
theorem mem_bitsL {v i:Nat} (h:v < 2 ^ 64):i∈bitsL v↔v.testBit i=true:=by
  unfold bitsL
  rw [List.mem_filter,List.mem_range]
  exact ⟨fun h=>h.2,fun hb=>⟨bit_lt h hb,hb⟩⟩
theorem bitsL_zero:bitsL 0=[]:=by
  unfold bitsL
  rw [List.filter_eq_nil_iff]
  intro i _; simp
theorem filter_cons_of {p q:Nat→Bool} {l:List Nat} {r:Nat} (hs:l.Pairwise (· < ·)) (hr:r∈l) (hp:p r=true) (hlo:∀ j∈l,j < r→p j=false) (hq:∀ j∈l,q j=(p j && decide (j≠r))) :
    l.filter p=r :: l.filter q:=by
  induction l with
  | nil=>cases hr
  | cons a l ih =>
    rw [List.pairwise_cons] at hs
    rcases List.mem_cons.1 hr with rfl | hr'
    · have hqr:q r=false:=by rw [hq r (List.mem_cons_self ..)]; simp
      rw [List.filter_cons_of_pos hp,List.filter_cons_of_neg (by simp [hqr])]
      congr 1
      apply List.filter_congr
      intro j hj
      rw [hq j (List.mem_cons_of_mem _ hj)]
      have:j≠r:=Nat.ne_of_gt (hs.1 j hj)
      simp [this]
    · have har:a < r:=hs.1 r hr'
      have hpa:=hlo a (List.mem_cons_self ..) har
      have hqa:q a=false:=by rw [hq a (List.mem_cons_self ..),hpa]; rfl
      rw [List.filter_cons_of_neg (by simp [hpa]),List.filter_cons_of_neg (by simp [hqa])]
      exact ih hs.2 hr' (fun j hj=>hlo j (List.mem_cons_of_mem _ hj)) (fun j hj=>hq j (List.mem_cons_of_mem _ hj))
theorem bitsL_step {r q:Nat} (h:2 ^ r*(2*q+1) < 2 ^ 64):bitsL (2 ^ r*(2*q+1))=r :: bitsL (2 ^ r*(2*q)):=by
  have hr:r < 64:=bit_lt h (by rw [odd_bit]; simp)
  refine filter_cons_of List.pairwise_lt_range (List.mem_range.2 hr) (by rw [odd_bit]; simp) (fun j _ hj=>by
    rw [odd_bit]
    have h1:¬ r=j:=by omega
    have h2:¬ r < j:=by omega
    simp [h1,h2]) (fun j _=>?_)
  rw [odd_bit,Nat.testBit_two_pow_mul]
  by_cases h1:r=j
  · subst h1; simp
  · by_cases h2:r < j
    · obtain ⟨d,rfl⟩:∃ d,j=r+d+1:=⟨j - r - 1,by omega⟩
      have e1:r+d+1 - r=d+1:=by omega
      have e2:r+d+1 - r - 1=d:=by omega
      rw [e2,e1,Nat.testBit_succ]
      have e3:(2*q) / 2=q:=by omega
      rw [e3,decide_eq_false h1,decide_eq_true h2,decide_eq_true (Ne.symm h1),decide_eq_true (show r≤r+d+1 by omega)]
      simp
    · have:¬ r≤j:=by omega
      simp [h1,h2,this]
def eachM {S β:Type} (g:Nat→S→Option (S ⊕ β)) (e:S→β):List Nat→S→Option β
  | [],s=>some (e s)
  | r :: l,s=>match g r s with
    | none=>none
    | some (.inl s')=>eachM g e l s'
    | some (.inr b)=>some b
theorem loopM_each {S β:Type} {f:Int × S→Option ((Int × S) ⊕ β)} {g:Nat→S→Option (S ⊕ β)} {e:S→β} {v0:Nat} (h0:v0 < 2 ^ 64)
    (hs:∀ (r q:Nat) (s:S),2 ^ r*(2*q+1) < 2 ^ 64→v0.testBit r=true→f (((2 ^ r*(2*q+1):Nat):Int),s)=(g r s).map (fun z=>match z with
      | .inl s'=>.inl (((2 ^ r*(2*q):Nat):Int),s')
      | .inr b=>.inr b))
    (he:∀ s,f (0,s)=some (.inr (e s))):∀ s b,eachM g e (bitsL v0) s=some b→loopM f ((v0:Int),s)=some b:=by
  have key:∀ v:Nat,v < 2 ^ 64→(∀ i,v.testBit i=true→v0.testBit i=true)→∀ s b,eachM g e (bitsL v) s=some b→loopM f ((v:Int),s)=some b:=by
    intro v
    induction v using Nat.strongRecOn with
    | _ v ih =>
      intro hv hsub s b hb
      rcases Nat.eq_zero_or_pos v with rfl | hp
      · rw [bitsL_zero] at hb
        exact loopM_inr ((he s).trans (congrArg (fun o=>Option.map Sum.inr o) hb))
      · obtain ⟨r,q,rfl⟩:=odd_part v hp
        rw [bitsL_step hv] at hb
        have h1:=hs r q s hv (hsub r (by rw [odd_bit]; simp))
        unfold eachM at hb
        cases hg:g r s with
        | none=>rw [hg] at hb; cases hb
        | some z =>
          rw [hg] at hb h1
          cases z with
          | inr b'=>
            obtain rfl:=Option.some.inj hb
            exact loopM_inr h1
          | inl s' =>
            rw [loopM_inl h1]
            have hpos:=Nat.two_pow_pos r
            have hlt:2 ^ r*(2*q) < 2 ^ r*(2*q+1):=Nat.mul_lt_mul_of_pos_left (by omega) hpos
            refine ih _ hlt (by omega) (fun i hi=>hsub i ?_) s' b hb
            rw [←low_and,Nat.testBit_and] at hi
            exact (Bool.and_eq_true_iff.1 hi).1
  exact fun s b=>key v0 h0 (fun _ h=>h) s b
theorem eachM_any {S β:Type} {g:Nat→S→Option (S ⊕ β)} {e:S→β} (bad:Nat→Bool) (b:β):∀ (l:List Nat) (s:S),(∀ r∈l,g r s=some (if bad r=true then .inr b else .inl s)) →
    eachM g e l s=some (if l.any bad=true then b else e s)
  | [],s,_=>by simp [eachM]
  | r :: l,s,h=>by
    have h1:=h r (List.mem_cons_self ..)
    unfold eachM
    rw [h1,List.any_cons]
    by_cases hb:bad r=true
    · simp [hb]
    · have hb':bad r=false:=by simpa using hb
      simp only [hb',Bool.false_or]
      exact eachM_any bad b l s fun r' hr'=>h r' (List.mem_cons_of_mem _ hr')
theorem clr_eq {r q:Nat} (h:2 ^ r*(2*q+1) < 2 ^ 64):bitsI .and .u64 ((2 ^ r*(2*q+1):Nat):Int) (IntKind.u64.wrap (((2 ^ r*(2*q+1):Nat):Int) - 1))=((2 ^ r*(2*q):Nat):Int):=by
  have hp:0 < 2 ^ r*(2*q+1):=Nat.mul_pos (Nat.two_pow_pos r) (by omega)
  have e:((2 ^ r*(2*q+1):Nat):Int) - 1=((2 ^ r*(2*q+1) - 1:Nat):Int):=by
    generalize 2 ^ r*(2*q+1)=v at *; omega
  rw [e,wrap_u64 (by omega),and_u64 h (by omega),low_and]
theorem nz_eq (r q:Nat):(((2 ^ r*(2*q+1):Nat):Int) != (0:Int))=true:=by
  have hp:0 < 2 ^ r*(2*q+1):=Nat.mul_pos (Nat.two_pow_pos r) (by omega)
  generalize 2 ^ r*(2*q+1)=v at *
  rw [bne_iff_ne]; omega
theorem loopM_any {S β:Type} {f:Int × S→Option ((Int × S) ⊕ β)} (a n:Nat) (s:S) (bad:Nat→Bool) (b e:β) (han:a≤n)
    (h:∀ i:Nat,a≤i→i < n→f ((i:Int),s)=some (if bad i=true then .inr b else .inl (((i+1:Nat):Int),s))) (hend:f ((n:Int),s)=some (.inr e)) :
    loopM f ((a:Int),s)=some (if (List.range' a (n - a)).any bad=true then b else e):=by
  have key:∀ k i,a≤i→i+k=n→loopM f ((i:Int),s)=some (if (List.range' i k).any bad=true then b else e):=by
    intro k
    induction k with
    | zero =>
      intro i _ hi; have:i=n:=by omega
      subst this; rw [loopM_inr hend]; simp
    | succ k ih =>
      intro i ha hi
      have hs:=h i ha (by omega)
      rw [List.range'_succ,List.any_cons]
      by_cases hb:bad i=true
      · rw [if_pos hb] at hs; rw [loopM_inr hs,hb]; simp
      · rw [if_neg hb] at hs; rw [loopM_inl hs,ih (i+1) (by omega) (by omega)]
        have:bad i=false:=by simpa using hb
        rw [this,Bool.false_or]
  exact key (n - a) a (Nat.le_refl _) (by omega)
theorem loopM_any0 {S β:Type} {f:Int × S→Option ((Int × S) ⊕ β)} (n:Nat) (s:S) (bad:Nat→Bool) (b e:β)
    (h:∀ i:Nat,i < n→f ((i:Int),s)=some (if bad i=true then .inr b else .inl (((i+1:Nat):Int),s))) (hend:f ((n:Int),s)=some (.inr e)) :
    loopM f (0,s)=some (if (List.range n).any bad=true then b else e):=by
  have:=loopM_any 0 n s bad b e (Nat.zero_le _) (fun i _=>h i) hend
  rw [List.range_eq_range']; exact this
theorem loopM_find {S β:Type} {f:Int × S→Option ((Int × S) ⊕ β)} (n:Nat) (s:S) (g:Nat→Option β) (e:β)
    (h:∀ i:Nat,i < n→f ((i:Int),s)=some (match g i with
      | some b=>.inr b
      | none=>.inl (((i+1:Nat):Int),s))) (hend:f ((n:Int),s)=some (.inr e)) :
    loopM f (0,s)=some (((List.range n).findSome? g).getD e):=by
  have key:∀ k i,i+k=n→loopM f ((i:Int),s)=some (((List.range' i k).findSome? g).getD e):=by
    intro k
    induction k with
    | zero =>
      intro i hi; have:i=n:=by omega
      subst this; exact loopM_inr hend
    | succ k ih =>
      intro i hi
      have hs:=h i (by omega)
      rw [List.range'_succ,List.findSome?_cons]
      cases hg:g i with
      | some b=>rw [hg] at hs; exact loopM_inr hs
      | none=>rw [hg] at hs; rw [loopM_inl hs]; exact ih (i+1) (by omega)
  have:=key n 0 (by omega)
  rw [List.range_eq_range']
  exact this
theorem loopM_up {S β:Type} {f:Int × S→Option ((Int × S) ⊕ β)} (n:Nat) (s:Nat→S) (e:β) (h:∀ i:Nat,i < n→f ((i:Int),s i)=some (.inl (((i+1:Nat):Int),s (i+1))))
    (hend:f ((n:Int),s n)=some (.inr e)):loopM f (0,s 0)=some e:=by
  have key:∀ k i,i+k=n→loopM f ((i:Int),s i)=some e:=by
    intro k
    induction k with
    | zero =>
      intro i hi; have:i=n:=by omega
      subst this; exact loopM_inr hend
    | succ k ih=>intro i hi; rw [loopM_inl (h i (by omega))]; exact ih (i+1) (by omega)
  exact key n 0 (by omega)
def cl (l:List Nat):List Int:=l.map fun n:Nat=>(n:Int)
theorem cl_length (l:List Nat):(cl l).length=l.length:=by simp [cl]
theorem cl_get (l:List Nat) (i:Nat):(cl l)[i]? = (l[i]?).map fun n:Nat=>(n:Int):=by simp [cl]
theorem cl_getI (l:List Nat) (i:Nat):getI (cl l) (i:Int)=(l[i]?).map fun n:Nat=>(n:Int):=by rw [getI_nat,cl_get]
theorem cl_set (l:List Nat) (i n:Nat):(cl l).set i (n:Int)=cl (l.set i n):=by simp [cl,List.map_set]
theorem cl_app (l m:List Nat):cl l++cl m=cl (l++m):=by simp [cl]
theorem cl_rep (n:Nat):List.replicate n (0:Int)=cl (List.replicate n 0):=by simp [cl]
theorem cl_of:∀ {l:List Int},(∀ v∈l,0≤v)→∃ ws,l=cl ws
  | [],_=>⟨[],rfl⟩
  | a :: l,h=>by
    obtain ⟨ws,rfl⟩:=cl_of (l:=l) fun v hv=>h v (List.mem_cons_of_mem _ hv)
    obtain ⟨n,rfl⟩:=Int.eq_ofNat_of_zero_le (h a (List.mem_cons_self ..))
    exact ⟨n :: ws,rfl⟩
theorem inB_nat (i n:Nat):inB (i:Int) n=decide (i < n):=by
  unfold inB; simp
end Go.Abs
namespace Go.Abs
open Go
theorem eachM_sim {A S β:Type} {g:Nat→S→Option (S ⊕ β)} {e:S→β} (rep:A→S) (st:A→Nat→A) (I:A→Prop):∀ (l:List Nat) (a:A),I a→(∀ r∈l,∀ a,I a→g r (rep a)=some (.inl (rep (st a r)))∧I (st a r)) →
    eachM g e l (rep a)=some (e (rep (l.foldl st a)))∧I (l.foldl st a)
  | [],a,hi,_=>⟨rfl,hi⟩
  | r :: l,a,hi,h=>by
    have h1:=h r (List.mem_cons_self ..) a hi
    unfold eachM
    rw [h1.1]
    exact eachM_sim rep st I l _ h1.2 fun r' hr'=>h r' (List.mem_cons_of_mem _ hr')
def wordOf:Nat→(Nat→Bool)→Nat
  | 0,_=>0
  | n+1,p=>if p n then wordOf n p ||| 2 ^ n else wordOf n p
theorem wordOf_lt (n:Nat) (p:Nat→Bool):wordOf n p < 2 ^ n:=by
  induction n with
  | zero=>exact Nat.one_pos
  | succ n ih =>
    unfold wordOf
    have h1:2 ^ n < 2 ^ (n+1):=Nat.pow_lt_pow_right (by decide) (by omega)
    split
    · exact Nat.or_lt_two_pow (by omega) h1
    · omega
theorem wordOf_bit (n:Nat) (p:Nat→Bool) (i:Nat):(wordOf n p).testBit i=(decide (i < n) && p i):=by
  induction n with
  | zero=>simp [wordOf]
  | succ n ih =>
    unfold wordOf
    by_cases hp:p n=true
    · rw [if_pos hp,Nat.testBit_or,ih,Nat.testBit_two_pow]
      by_cases h:n=i
      · subst h; simp [hp]
      · by_cases h2:i < n
        · have h3:i < n+1:=by omega
          simp [h,h2,h3]
        · have h3:¬ i < n+1:=by omega
          simp [h,h2,h3]
    · rw [if_neg hp,ih]
      by_cases h:n=i
      · subst h; simp [hp]
      · by_cases h2:i < n
        · have h3:i < n+1:=by omega
          simp [h2,h3]
        · have h3:¬ i < n+1:=by omega
          simp [h2,h3]
theorem wordOf_lt32 {n:Nat} (p:Nat→Bool) (h:n≤32):wordOf n p < 2 ^ 32:=Nat.lt_of_lt_of_le (wordOf_lt n p) (Nat.pow_le_pow_right (by decide) h)
def tab {α:Type} (n:Nat) (g:Nat→α):List α:=(List.range n).map g
theorem tab_length {α:Type} (n:Nat) (g:Nat→α):(tab n g).length=n:=by simp [tab]
theorem tab_get {α:Type} {n i:Nat} (g:Nat→α) (h:i < n):(tab n g)[i]? = some (g i):=by simp [tab,h]
theorem tab_set {α:Type} (n:Nat) (g:Nat→α) (r:Nat) (v:α):(tab n g).set r v=tab n fun j=>if j=r then v else g j:=by
  apply List.ext_getElem?
  intro i
  rw [List.getElem?_set]
  by_cases hi:i < n
  · rw [tab_get _ hi,tab_get _ hi,tab_length]
    by_cases h:r=i
    · subst h; simp [hi]
    · simp [h,Ne.symm h]
  · rw [List.getElem?_eq_none (l:=tab n g) (by rw [tab_length]; omega),List.getElem?_eq_none (l:=tab n _) (by rw [tab_length]; omega),tab_length]
    by_cases h:r=i
    · subst h; simp [hi]
    · simp [h]
theorem tab_congr {α:Type} {n:Nat} {g g':Nat→α} (h:∀ i,i < n→g i=g' i):tab n g=tab n g':=List.map_congr_left fun i hi=>h i (List.mem_range.1 hi)
theorem tab_succ {α:Type} (n:Nat) (g:Nat→α):tab (n+1) g=tab n g++[g n]:=by simp [tab,List.range_succ]
theorem mem_tab {α:Type} {n:Nat} {g:Nat→α} {a:α}:a∈tab n g↔∃ i,i < n∧g i=a:=by simp [tab]
theorem rep_tab {α:Type} (n:Nat) (a:α):List.replicate n a=tab n fun _=>a:=by
  unfold tab; rw [List.map_const',List.length_range]
theorem room4 {n:Nat} (h:n≤1000000):roomOk n 4=true:=by
  unfold roomOk
  rw [Bool.and_eq_true]
  exact ⟨Nat.ble_eq_true_of_le (by omega),Nat.ble_eq_true_of_le (by omega)⟩
theorem foldl_or_at (m:Nat):∀ (l:List Nat) (g:Nat→Nat) (j:Nat),(l.foldl (fun (g:Nat→Nat) r=>fun j=>if j=r then g j ||| m else g j) g) j=if j∈l then g j ||| m else g j
  | [],g,j=>by simp
  | r :: l,g,j=>by
    rw [List.foldl_cons,foldl_or_at m l]
    by_cases h1:j∈l <;> by_cases h2:j=r <;> simp [h1,h2,Nat.or_assoc]
end Go.Abs
namespace Go.Abs
open Go
end Go.Abs
namespace Go.Abs
open Go
end Go.Abs
namespace Go.Abs
open Go
theorem loopM_run {σ β:Type} {f:σ→Option (σ ⊕ β)} (n:Nat) (s:Nat→σ) (bad:Nat→Bool) (Bad:β→Prop) (e:β)
    (h:∀ i:Nat,i < n→bad i=false→f (s i)=some (.inl (s (i+1))))
    (hb:∀ i:Nat,i < n→bad i=true→∃ b,f (s i)=some (.inr b)∧Bad b) (hend:f (s n)=some (.inr e)) :
    ((List.range n).any bad=false→loopM f (s 0)=some e)∧((List.range n).any bad=true→∃ b,loopM f (s 0)=some b∧Bad b):=by
  have key:∀ k i,i+k=n→((List.range' i k).any bad=false→loopM f (s i)=some e)∧((List.range' i k).any bad=true→∃ b,loopM f (s i)=some b∧Bad b):=by
    intro k
    induction k with
    | zero =>
      intro i hi
      have:i=n:=by omega
      subst this
      exact ⟨fun _=>loopM_inr hend,fun h=>by cases h⟩
    | succ k ih =>
      intro i hi
      rw [List.range'_succ,List.any_cons]
      cases hbi:bad i with
      | true =>
        obtain ⟨b,h1,h2⟩:=hb i (by omega) hbi
        rw [Bool.true_or]
        exact ⟨fun h=>(by cases h),fun _=>⟨b,loopM_inr h1,h2⟩⟩
      | false =>
        rw [Bool.false_or,loopM_inl (h i (by omega) hbi)]
        exact ih (i+1) (by omega)
  rw [List.range_eq_range']
  exact key n 0 (by omega)
theorem loopM_go {σ β:Type} {f:σ→Option (σ ⊕ β)} (n:Nat) (s:Nat→σ) (e:β) (h:∀ i:Nat,i < n→f (s i)=some (.inl (s (i+1)))) (hend:f (s n)=some (.inr e)):loopM f (s 0)=some e :=
  (loopM_run n s (fun _=>false) (fun _=>False) e (fun i hi _=>h i hi) (fun _ _ h=>by cases h) hend).1 (by simp)
end Go.Abs
