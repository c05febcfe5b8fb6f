/- Lemmas on functions of the program, by name. -/
import Derived.Test.YtgepgleagefmeabGreatDoorZFFuns
import Derived.Test.YtgepgleagefmeabGreatDoorAbsSums
import Derived.Test.YtgepgleagefmeabGreatDoorZFLemmasReachFronts4
namespace Go.Proofs.Tryz
section
open Go Go.Abs

abbrev Stp:=Int × List Int × Unit
section
variable {N:List Node} {E:List Edge}
def qfzl9 (N:List Node) (l:List Stp):Option Int:=l.findSome? fun s=>if stampC N s.1 s.2.1=0 then none else some (stampC N s.1 s.2.1)
theorem qnzw7 {α β:Type} (f:Nat→Option α) (g:α→β):∀ l:List Nat,l.findSome? (fun i=>(f i).map g)=(l.findSome? f).map g
  | []=>rfl
  | a :: r=>by
    rw [List.findSome?_cons,List.findSome?_cons]
    cases f a with
    | some x=>rfl
    | none=>exact qnzw7 f g r
theorem qtjde {α β:Type} (d:α) (f:α→Option β):∀ (l:List α),(List.range l.length).findSome? (fun i=>f (l.getD i d))=l.findSome? f:=by
  intro l
  induction l with
  | nil=>rfl
  | cons a l ih =>
    rw [List.length_cons,List.range_succ_eq_map,List.findSome?_cons,List.findSome?_cons,List.findSome?_map]
    show (match f a with | some b=>some b | none=>_)=_
    cases f a with
    | some b=>rfl
    | none=>exact ih
def codeL (N:List Node):Int→List Stp→Int
  | c,[]=>c
  | c,s :: l=>if c=0 then codeL N (stampC N s.1 s.2.1) l else c
theorem qz9zo {c:Int} (h:c≠0):∀ l,codeL N c l=c
  | []=>rfl
  | s :: l=>by unfold codeL; rw [if_neg h]
theorem qm3d5:∀ (l:List Stp),codeL N 0 l=(qfzl9 N l).getD 0
  | []=>rfl
  | s :: l=>by
    unfold codeL qfzl9
    rw [if_pos rfl,List.findSome?_cons]
    by_cases h:stampC N s.1 s.2.1=0
    · rw [if_pos h,h]
      exact qm3d5 l
    · rw [if_neg h,qz9zo h]; rfl
theorem q0rt0 (hN:N.all mayB=true) {l:List Stp} (h:qfzl9 N l=none):∀ s∈l,∃ k:Nat,s.1=(k:Int)∧k < N.length∧chk s.2.1=0∧s.2.1.length=depN N k:=fun s hs=>by
  have:=List.findSome?_eq_none_iff.1 h s hs
  refine qvuc7 hN ?_
  apply Classical.byContradiction
  intro hc
  rw [if_neg hc] at this
  cases this
end
end

end Go.Proofs.Tryz
