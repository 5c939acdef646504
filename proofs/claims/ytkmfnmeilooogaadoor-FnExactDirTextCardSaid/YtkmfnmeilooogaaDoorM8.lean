/- Several texts of this claim in one file: YtkmfnmeilooogaaDoorTreeSumB, YtkmfnmeilooogaaDoorDirTextB, YtkmfnmeilooogaaDoorPureFnExactDirText. -/
import Derived.Test.YtkmfnmeilooogaaDoorM7
import Derived.Test.YtkmfnmeilooogaaDoorM5
import Derived.Test.YtkmfnmeilooogaaDoorM6
import Derived.Test.YtkmfnmeilooogaaDoorM3
namespace Go.Proofs.YtkmfnmeilooogaaDoor.Pure
open Go Go.RowKit Go.Proofs.YtkmfnmeilooogaaDoor.P Go.Proofs.YtkmfnmeilooogaaDoorW.PrintWords Go.Proofs.YtkmfnmeilooogaaDoorW.PrintLast
set_option linter.unusedVariables false
set_option linter.unusedSimpArgs false

theorem treeOk_sizes {l:List Entry} (h:treeOk l=true):∀ e ∈ l,e.f0.size≤126∧e.f1.size≤1500:=fun e he=>⟨treeOk_size' h e he,(entryOk_path (((treeOk_iff l).1 h).2.1 e he)).2⟩
theorem shallow_of {l:List Entry} (h:∀ e ∈ l,e.f0.size≤126∧e.f1.size≤1500):∀ e ∈ l,slashes e<200:=fun e he=>by
  have h1:=slashes_le e
  have h2:=(h e he).1
  omega
theorem good_ev (l:List Entry) (w:Int):Ev (fun k=>spec_l9Good.f k l w) (treeOk l&&decide (1≤w∧w≤8)):=by
  unfold spec_l9Good.f
  refine Ev.bind (spec_ValidTree_ev l) ?_
  by_cases h:treeOk l=true
  · rw [h, Bool.true_and, in_eq]
    exact Ev.pos rfl (Ev.sb (Ev.now _))
  · rw [Bool.eq_false_iff.2 h, Bool.false_and]
    exact Ev.neg (by simp) (Ev.now _)
theorem isum_ev (s:ByteArray) (w:Int) (hs:s.size≤1000000):Ev (fun k=>impl_Sum.f k s w) (sumOf s w):=ev_of (s.size+10) (fun k hk=>impl_Sum_eq s (by omega) w k (by omega))
def treeSum (l:List Entry) (w:Int):ByteArray:=if treeOk l=true∧(1≤w∧w≤8) then sumOf (dirT w 200 l) w else ⟨#[]⟩
theorem dirT_small {l:List Entry} (w:Int) (h:treeOk l=true):(dirT w 200 l).size≤1000000:=Nat.le_trans (dirT_size w 126 200 l (treeOk_len100 h) (fun e he=>(treeOk_sizes h e he).1)) (by omega)
theorem spec_TreeSum_ev (l:List Entry) (w:Int):Ev (fun k=>spec_TreeSum.f k l w) (treeSum l w):=by
  unfold spec_TreeSum.f treeSum
  refine Ev.bind (good_ev l w) ?_
  by_cases h:treeOk l=true
  · by_cases hw : 1 ≤ w ∧ w ≤ 8
    · rw [if_pos ⟨h, hw⟩, h, decide_eq_true hw]
      exact Ev.pos rfl (Ev.bind (dir_ev w 200 l (treeOk_len100 h) (treeOk_sizes h) (shallow_of (treeOk_sizes h))) (Ev.bind (sum_ev _ w (dirT_small w h)) (Ev.now _)))
    · rw [if_neg (fun q => hw q.2), decide_eq_false hw, Bool.and_false]
      exact Ev.neg (by simp) (Ev.now _)
  · rw [if_neg (fun q => h q.1), Bool.eq_false_iff.2 h, Bool.false_and]
    exact Ev.neg (by simp) (Ev.now _)
theorem impl_TreeSum_ev (l : List Entry) (hz : ∀ e ∈ l, e.f0.size ≤ 1048576) (w : Int) : Ev (fun k => impl_TreeSum.f k l w) (treeSum l w) := by
  unfold impl_TreeSum.f treeSum
  have jt:Ev (fun k=>impl_TreeSum.j0 k w true l) (⟨#[]⟩:ByteArray):=Ev.step (fun k=>impl_TreeSum.j0.eq_2 ..) (Ev.pos rfl (Ev.now _))
  refine Ev.bind (impl_ValidTree_ev l hz) ?_
  by_cases h:treeOk l=true
  · refine Ev.pos h ?_
    rw [impl_in_eq]
    refine Ev.sb ?_
    by_cases hw:1≤w∧w≤8
    · rw [if_pos ⟨h, hw⟩, decide_eq_true hw]
      refine Ev.step (fun k=>impl_TreeSum.j0.eq_2 ..) (Ev.neg (by simp) ?_)
      have e:impl_dirText.f l (⟨#[]⟩:ByteArray) w=some (dirT w 200 l):=by
        unfold impl_dirText.f
        rw [if_pos ⟨h,hw,Nat.zero_le _⟩,show subT l (⟨#[]⟩:ByteArray)=l from if_pos (by rw [Lib.toList_data])]
      rw [e]
      exact Ev.sb (Ev.bind (isum_ev _ w (dirT_small w h)) (Ev.now _))
    · rw [if_neg (fun q => hw q.2), decide_eq_false hw]
      exact jt
  · rw [if_neg (fun q => h q.1)]
    exact Ev.neg h jt

end Go.Proofs.YtkmfnmeilooogaaDoor.Pure


namespace Go.Proofs.YtkmfnmeilooogaaDoor.Pure
open Go Go.RowKit Go.Proofs.YtkmfnmeilooogaaDoor.P Go.Proofs.YtkmfnmeilooogaaDoorW.PrintWords Go.Proofs.YtkmfnmeilooogaaDoorW.PrintLast
set_option linter.unusedVariables false
set_option linter.unusedSimpArgs false

def dirText (l:List Entry) (dir:ByteArray) (w:Int):ByteArray:=if treeOk l=true∧(1≤w∧w≤8)∧(dir.toList = []∨pathOk dir false=true) then dirT w 200 (subT l dir) else ⟨#[]⟩
theorem spec_DirText_ev (l : List Entry) (dir : ByteArray) (w : Int) : Ev (fun k => spec_DirText.f k l dir w) (dirText l dir w) := by
  unfold spec_DirText.f dirText
  have jt:Ev (fun k=>spec_DirText.j0 k dir w true l) (⟨#[]⟩:ByteArray):=Ev.step (fun k=>spec_DirText.j0.eq_2 ..) (Ev.pos rfl (Ev.now _))
  refine Ev.bind (good_ev l w) ?_
  by_cases h:treeOk l=true
  · by_cases hw : 1 ≤ w ∧ w ≤ 8
    · rw [h, decide_eq_true hw]
      refine Ev.pos rfl ?_
      by_cases hd:dir.toList = []
      · rw [if_pos ⟨rfl, hw, .inl hd⟩]
        refine Ev.pos hd (Ev.step (fun k=>spec_DirText.j0.eq_2 ..) (Ev.neg (by simp) (Ev.pos hd ?_)))
        rw [show subT l dir=l from if_pos hd]
        exact Ev.bind (dir_ev w 200 l (treeOk_len100 h) (treeOk_sizes h) (shallow_of (treeOk_sizes h))) (Ev.now _)
      · refine Ev.neg hd (Ev.bind (spec_path_ev dir) ?_)
        by_cases hp:pathOk dir false=true
        · rw [if_pos ⟨rfl, hw, .inr hp⟩, hp]
          refine Ev.step (fun k=>spec_DirText.j0.eq_2 ..) (Ev.neg (by simp) (Ev.neg hd (Ev.bind (under9_ev l (treeOk_len100 h) dir (by have:=pathOk_size hp;omega)) ?_)))
          rw [show subT l dir=subL dir l from if_neg hd]
          exact Ev.bind (dir_ev w 200 _ (Nat.le_trans (sub_len dir l) (treeOk_len100 h)) (sub_sizes (treeOk_sizes h)) (shallow_of (sub_sizes (treeOk_sizes h)))) (Ev.now _)
        · rw [if_neg (fun q => q.2.2.elim hd hp), Bool.eq_false_iff.2 hp]
          exact jt
    · rw [if_neg (fun q => hw q.2.1), decide_eq_false hw, Bool.and_false]
      exact Ev.neg (by simp) jt
  · rw [if_neg (fun q => h q.1), Bool.eq_false_iff.2 h, Bool.false_and]
    exact Ev.neg (by simp) jt
theorem dirText_pos {l:List Entry} {dir:ByteArray} {w:Int} (h:treeOk l=true∧(1≤w∧w≤8)∧(dir.toList = []∨pathOk dir false=true)):dirText l dir w=dirT w 200 (subT l dir):=if_pos h
theorem dirText_neg {l:List Entry} {dir:ByteArray} {w:Int} (h:¬ (treeOk l=true∧(1≤w∧w≤8)∧(dir.toList = []∨pathOk dir false=true))):dirText l dir w=⟨#[]⟩:=if_neg h
theorem impl_DirText_ev (l : List Entry) (hz : ∀ e ∈ l, e.f0.size ≤ 1048576) (dir : ByteArray) (hdz : dir.size ≤ 1048576) (w : Int) : Ev (fun k => impl_DirText.f k l dir w) (dirText l dir w) := by
  unfold impl_DirText.f
  refine Ev.bind (impl_ValidTree_ev l hz) ?_
  by_cases h:treeOk l=true
  · refine Ev.pos h ?_
    by_cases hd:dir.toList = []
    · refine Ev.pos hd ?_
      rw [impl_in_eq]
      refine Ev.sb ?_
      have hz0:dir.size=0:=by rw [←size_toList,←Lib.toList_data,hd];rfl
      by_cases hw:1≤w∧w≤8
      · rw [dirText_pos ⟨h, hw, .inl hd⟩, decide_eq_true hw]
        have e:impl_dirText.f l dir w=some (dirT w 200 (subT l dir)):=by
          unfold impl_dirText.f
          rw [if_pos ⟨h,hw,by omega⟩]
        rw [e]
        exact Ev.pos rfl (Ev.sb (Ev.now _))
      · rw [dirText_neg (fun q => hw q.2.1), decide_eq_false hw]
        exact Ev.neg (by simp) (Ev.now _)
    · refine Ev.neg hd (Ev.bind (impl_path_ev dir hdz) ?_)
      by_cases hp:pathOk dir false=true
      · refine Ev.pos hp ?_
        rw [impl_in_eq]
        refine Ev.sb ?_
        by_cases hw:1≤w∧w≤8
        · rw [dirText_pos ⟨h, hw, .inr hp⟩, decide_eq_true hw]
          have e:impl_dirText.f l dir w=some (dirT w 200 (subT l dir)):=by
            unfold impl_dirText.f
            rw [if_pos ⟨h,hw,pathOk_size hp⟩]
          rw [e]
          exact Ev.pos rfl (Ev.sb (Ev.now _))
        · rw [dirText_neg (fun q => hw q.2.1), decide_eq_false hw]
          exact Ev.neg (by simp) (Ev.now _)
      · rw [dirText_neg (fun q => q.2.2.elim hd hp)]
        exact Ev.neg hp (Ev.now _)
  · rw [dirText_neg (fun q => h q.1)]
    exact Ev.neg h (Ev.now _)

end Go.Proofs.YtkmfnmeilooogaaDoor.Pure


namespace Go.Proofs.YtkmfnmeilooogaaDoor.Pure
open Go Go.RowKit Go.Proofs.YtkmfnmeilooogaaDoor.P Go.Proofs.YtkmfnmeilooogaaDoorW.PrintWords Go.Proofs.YtkmfnmeilooogaaDoorW.PrintLast
set_option linter.unusedVariables false
set_option linter.unusedSimpArgs false

theorem ofE_smallDirText {l:List LEntry} {left:Int} (h1:left≤1048576) (h:∀ s ∈ l,(s.f0.size:Int)≤left∧(s.f1.size:Int)≤left):∀ e ∈ l.map ofE,e.f0.size≤1048576:=by
  intro e he
  obtain ⟨s,hs,rfl⟩:=List.mem_map.1 he
  have:=(h s hs).1
  show s.f0.size≤1048576
  omega
theorem FnExactDirText (l:List LEntry) (dir:ByteArray) (w:Int) (h:l.length*40≤140737488351232 ∧ ∀ x ∈ l,Small130 x) (_hb:dir.size≤140737488351232) (_hw:(Lit.int .i64 w).wf=true):∃ k,laws_FnExactDirText.f k l dir w=some true:=by
  apply Ev.rounds
  unfold laws_FnExactDirText.f
  by_cases hb:(dir.size:Int)>1048576
  · exact Ev.pos hb (Ev.now _)
  refine Ev.neg hb ?_
  obtain ⟨r,hr,hR⟩:=szTree_ev l (by omega) (fun s hs=>⟨(h.2 s hs).1,(h.2 s hs).2.1⟩) 1048576 (by omega) (by omega)
  refine Ev.bind hr ?_
  rcases hR with rfl|⟨a,b,c,d⟩
  · exact Ev.pos (by omega) (Ev.now _)
  have T:=toTree_ev l (by omega)
  have hl:(l.map ofE).length≤1048576:=by rw [List.length_map];omega
  have hs:=ofE_smallDirText (l:=l) (left:=1048576) (by omega) d
  generalize l.map ofE=X at T hl hs
  have S:=spec_DirText_ev X dir w
  have I:=impl_DirText_ev X hs dir (by omega) w
  exact Ev.neg (by omega) (Ev.bind T (Ev.bind S (Ev.bind T (Ev.bind I (Ev.pos rfl (Ev.bind T (Ev.bind (eqTree_ev X (by omega)) (Ev.pos rfl (Ev.now _)))))))))

end Go.Proofs.YtkmfnmeilooogaaDoor.Pure

