/- Several texts of this claim in one file: YthfpoacindblgaaDoorProveB, YthfpoacindblgaaDoorPureFnExactProve. -/
import Derived.Test.YthfpoacindblgaaDoorM7
import Derived.Test.YthfpoacindblgaaDoorM5
import Derived.Test.YthfpoacindblgaaDoorM6
import Derived.Test.YthfpoacindblgaaDoorM3
namespace Go.Proofs.YthfpoacindblgaaDoor.Pure
open Go Go.RowKit Go.Proofs.YthfpoacindblgaaDoor.P Go.Proofs.YthfpoacindblgaaDoorW.PrintWords Go.Proofs.YthfpoacindblgaaDoorW.PrintLast
set_option linter.unusedVariables false
set_option linter.unusedSimpArgs false

theorem treeOk_sizesP {l:List Entry} (h:treeOk l=true):∀ e ∈ l,e.f0.size≤126∧e.f1.size≤1500:=fun e he=>⟨treeOk_size' h e he,(entryOk_path (((treeOk_iff l).1 h).2.1 e he)).2⟩
theorem shallowP {l:List Entry} (h:∀ e ∈ l,e.f0.size≤126∧e.f1.size≤1500):∀ e ∈ l,slashes e<200:=fun e he=>by
  have h1:=slashes_le e
  have h2:=(h e he).1
  omega
theorem goodP_ev (l:List Entry) (w:Int):Ev (fun k=>spec_l9Good.f k l w) (treeOk l&&decide (1≤w∧w≤8)):=by
  unfold spec_l9Good.f
  refine Ev.bind (spec_ValidTree_ev l) ?_
  by_cases h:treeOk l=true
  · rw [h, Bool.true_and, in_eq]
    exact Ev.pos rfl (Ev.sb (Ev.now _))
  · rw [Bool.eq_false_iff.2 h, Bool.false_and]
    exact Ev.neg (by simp) (Ev.now _)
/-- Whether the way ends ahead of the path: nothing lies there. -/
def stops:List Entry→List ByteArray→Bool
  | _,[]=>false
  | X,p :: L=>if L = [] then false else if (subL p X).length=0 then true else stops (subL p X) L
theorem stops_not : ∀ (r cur : List UInt8) (X : List Entry) (e : Entry), e ∈ X → e.f0.data.toList = cur ++ r → stops X ((cuts 47 r cur).map ofBytes) = false := by
  intro r
  induction r with
  | nil =>
    intro cur X e _ _
    rw [cuts]
    show (if ([]:List ByteArray) = [] then false else _)=_
    rw [if_pos rfl]
  | cons b r ih =>
    intro cur X e he hd
    rw [cuts]
    by_cases hb:b=47
    · subst hb
      rw [if_pos rfl,List.map_cons,stops]
      have hbg:begins (ofBytes cur) e.f0=true:=(begins_split _ _).2 ⟨r,by rw [ofBytes_data];exact hd⟩
      have hm:subE (ofBytes cur) e ∈ subL (ofBytes cur) X:=List.mem_map_of_mem (List.mem_filter.2 ⟨he,hbg⟩)
      have hx:(subE (ofBytes cur) e).f0.data.toList=r:=sub_path (n:=ofBytes cur) (p:=e.f0) (by rw [ofBytes_data];exact hd)
      split
      · rfl
      · rw [if_neg (fun h0 => by rw [List.length_eq_zero_iff.1 h0] at hm; cases hm)]
        exact ih [] _ _ hm hx
    · rw [if_neg hb]
      exact ih (cur ++ [b]) X e he (by rw [hd];simp)
theorem stops_none {l:List Entry} {s:ByteArray} (h:stops l (piecesB 47 s)=true):atF l s=none:=by
  unfold atF
  rw [List.find?_eq_none]
  intro e he hs
  have hs':e.f0=s:=str_eq (of_decide_eq_true hs)
  have:=stops_not s.data.toList [] l e he (by rw [hs'];rfl)
  unfold piecesB at h
  rw [this] at h
  cases h
theorem prove_l0 (w : Int) (s : ByteArray) (hs : s.size ≤ 1000000) (l : List Entry) (hl : l.length ≤ 100) (parts : List ByteArray) (hp6 : parts.length ≤ 1000) (hpz : ∀ p ∈ parts, p.size ≤ 1000000) : ∀ (d i : Nat) (acc : List ByteArray) (X : List Entry), i + d = parts.length → acc.length ≤ i + 1 → X.length ≤ 100 → (∀ e ∈ X, e.f0.size ≤ 126 ∧ e.f1.size ≤ 1500) →
    Ev (fun k=>spec_Prove.l0 k s w parts (i:Int) l acc false (⟨#[]⟩:ByteArray) X) (acc++along w X (parts.drop i),if stops X (parts.drop i)=true then false else (atT (atF l s)).1,if stops X (parts.drop i)=true then (⟨#[]⟩:ByteArray) else (atT (atF l s)).2.1)
  | 0, i, acc, X, hd, ha, hX, hz => by
    refine Ev.step (fun k=>spec_Prove.l0.eq_2 ..) ?_
    rw [w64 (n:=(i:Int)+1) (by omega) (by omega),List.drop_of_length_le (by omega)]
    refine Ev.neg (by omega) (Ev.bind (at9_ev s l hl) ?_)
    rw [show along w X [] = [] from rfl,show stops X []=false from rfl,List.append_nil]
    exact Ev.now _
  | d + 1, i, acc, X, hd, ha, hX, hz => by
    have hi:i<parts.length:=by omega
    refine Ev.step (fun k=>spec_Prove.l0.eq_2 ..) ?_
    rw [w64 (n:=(i:Int)+1) (by omega) (by omega),List.drop_eq_getElem_cons hi,along,stops]
    by_cases h1:d=0
    · have hn : parts.drop (i + 1) = [] := List.drop_of_length_le (by omega)
      rw [if_pos hn,if_pos hn,List.append_nil]
      refine Ev.neg (by omega) (Ev.bind (at9_ev s l hl) ?_)
      exact Ev.now _
    · have hn : ¬ parts.drop (i + 1) = [] := fun e => by
        have:=congrArg List.length e
        rw [List.length_drop] at this
        simp at this
        omega
      rw [if_neg hn,if_neg hn]
      refine Ev.pos (by omega) (Ev.pos (by omega) (Ev.pos (by omega) ?_))
      rw [rdB_eq hi]
      have hpi:=hpz _ (List.getElem_mem hi)
      refine Ev.bind (under9_ev X hX parts[i] hpi) ?_
      have hY:(subL parts[i] X).length≤100:=Nat.le_trans (sub_len _ _) hX
      have hyz:∀ e ∈ subL parts[i] X,e.f0.size≤126∧e.f1.size≤1500:=sub_sizes hz
      generalize subL parts[i] X=Y at hY hyz
      by_cases h0:Y.length=0
      · rw [if_pos h0, if_pos h0, List.append_nil]
        exact Ev.pos (by omega) (Ev.now _)
      · rw [if_neg h0, if_neg h0]
        refine Ev.neg (by omega) (Ev.bind (dir_ev w 200 Y hY hyz (shallowP hyz)) (Ev.pos (by omega) ?_))
        rw [show (i:Int)+1=((i+1:Nat):Int) from by omega]
        have:=prove_l0 w s hs l hl parts hp6 hpz d (i+1) (acc ++ [dirT w 200 Y]) Y (by omega) (by rw [List.length_append,List.length_singleton];omega) hY hyz
        rw [List.append_assoc] at this
        exact this
def provT (l:List Entry) (s:ByteArray) (w:Int):List ByteArray×Bool×ByteArray:=if treeOk l=true∧pathOk s false=true∧(1≤w∧w≤8) then impl_Prove.good l s w else ([],false,⟨#[]⟩)
theorem spec_Prove_ev (l : List Entry) (s : ByteArray) (w : Int) : Ev (fun k => spec_Prove.f k l s w) (provT l s w) := by
  have jt:Ev (fun k=>spec_Prove.j0 k s w true l) (([],false,⟨#[]⟩):List ByteArray×Bool×ByteArray):=Ev.step (fun k=>spec_Prove.j0.eq_2 ..) (Ev.pos rfl (Ev.now _))
  unfold spec_Prove.f provT
  refine Ev.bind (goodP_ev l w) ?_
  by_cases h:treeOk l=true
  · by_cases hw : 1 ≤ w ∧ w ≤ 8
    · rw [h, decide_eq_true hw]
      refine Ev.pos rfl (Ev.bind (spec_path_ev s) ?_)
      by_cases hp:pathOk s false=true
      · rw [if_pos ⟨rfl, hp, hw⟩, hp]
        refine Ev.step (fun k=>spec_Prove.j0.eq_2 ..) (Ev.neg (by simp) ?_)
        have hs:=pathOk_size hp
        have hl:=treeOk_len100 h
        have hz:=treeOk_sizesP h
        refine Ev.bind (dir_ev w 200 l hl hz (shallowP hz)) (Ev.bind (spec_parts_ev s (by omega)) ?_)
        have hlen:=piecesB_length 47 s
        have:=prove_l0 w s (by omega) l hl (piecesB 47 s) (by omega) (fun p hp=>by have:=piecesB_size 47 s p hp;omega) (piecesB 47 s).length 0 [dirT w 200 l] l (by omega) (by simp) hl hz
        rw [List.drop_zero,along_path w l hp] at this
        have e:(([dirT w 200 l]++dirsG (fun i=>dirT w 200 (subT l (s.extract 0 i))) s s.size 0,if stops l (piecesB 47 s)=true then false else (atT (atF l s)).1,if stops l (piecesB 47 s)=true then (⟨#[]⟩:ByteArray) else (atT (atF l s)).2.1):List ByteArray×Bool×ByteArray)=impl_Prove.good l s w:=by
          unfold impl_Prove.good
          refine Prod.ext rfl (Prod.ext ?_ ?_)
          · show (if _ then _ else _) = _
            by_cases hst:stops l (piecesB 47 s)=true
            · rw [if_pos hst, stops_none hst]
              rfl
            · rw [if_neg hst]
              cases atF l s <;> rfl
          · show (if _ then _ else _) = _
            by_cases hst:stops l (piecesB 47 s)=true
            · rw [if_pos hst, stops_none hst]
              rfl
            · rw [if_neg hst]
              cases atF l s <;> rfl
        rw [e] at this
        exact this
      · rw [if_neg (fun q => hp q.2.1), Bool.eq_false_iff.2 hp]
        exact jt
    · rw [if_neg (fun q => hw q.2.2), decide_eq_false hw, Bool.and_false]
      exact Ev.neg (by simp) jt
  · rw [if_neg (fun q => h q.1), Bool.eq_false_iff.2 h, Bool.false_and]
    exact Ev.neg (by simp) jt
theorem impl_Prove_eq (l:List Entry) (hz:∀ e ∈ l,e.f0.size≤1048576) (s:ByteArray) (hs:s.size≤1048576) (w:Int):impl_Prove.f l s w=some (provT l s w):=by
  unfold impl_Prove.f
  rw [if_pos ⟨hz,hs⟩]
  rfl
theorem dirsG_len (D:Nat→ByteArray) (s:ByteArray):∀ (n i:Nat),(dirsG D s n i).length≤n
  | 0,i=>by rw [dirsG];exact Nat.le_refl _
  | n + 1, i => by
    have:=dirsG_len D s n (i+1)
    rw [dirsG]
    split
    · split
      · exact Nat.zero_le _
      · rw [List.length_cons];omega
    · omega
theorem provT_len (l:List Entry) (s:ByteArray) (w:Int):(provT l s w).1.length≤s.size+1:=by
  unfold provT
  split
  · unfold impl_Prove.good
    have:=dirsG_len (impl_Prove.D l s w) s s.size 0
    show (_ :: dirsG _ _ _ _).length≤_
    rw [List.length_cons]
    omega
  · exact Nat.zero_le _

end Go.Proofs.YthfpoacindblgaaDoor.Pure


namespace Go.Proofs.YthfpoacindblgaaDoor.Pure
open Go Go.RowKit Go.Proofs.YthfpoacindblgaaDoor.P Go.Proofs.YthfpoacindblgaaDoorW.PrintWords Go.Proofs.YthfpoacindblgaaDoorW.PrintLast
set_option linter.unusedVariables false
set_option linter.unusedSimpArgs false

theorem ofE_smallProve {l:List LEntry} {left:Int} (h1:left≤1048576) (h:∀ s ∈ l,(s.f0.size:Int)≤left∧(s.f1.size:Int)≤left):∀ e ∈ l.map ofE,e.f0.size≤1048576:=by
  intro e he
  obtain ⟨s,hs,rfl⟩:=List.mem_map.1 he
  have:=(h s hs).1
  show s.f0.size≤1048576
  omega
theorem eqProve_ev (l:List ByteArray) (t:Bool) (x:ByteArray) (h:l.length≤8796093022208):Ev (fun k=>laws_eqProof.f k l t x l t x) true:=by
  unfold laws_eqProof.f
  refine Ev.bind (eqTexts l h) (Ev.congr (fun k => ?_) (Ev.now _))
  cases t <;> simp
theorem FnExactProve (l:List LEntry) (s:ByteArray) (w:Int) (h:l.length*40≤140737488351232 ∧ ∀ x ∈ l,Small61 x) (_hb:s.size≤140737488351232) (_hw:(Lit.int .i64 w).wf=true):∃ k,laws_FnExactProve.f k l s w=some true:=by
  apply Ev.rounds
  unfold laws_FnExactProve.f
  by_cases hb:(s.size:Int)>1048576
  · exact Ev.pos hb (Ev.now _)
  refine Ev.neg hb ?_
  obtain ⟨r,hr,hR⟩:=szTree_ev l (by omega) (fun s hs=>⟨(h.2 s hs).1,(h.2 s hs).2.1⟩) 1048576 (by omega) (by omega)
  refine Ev.bind hr ?_
  rcases hR with rfl|⟨a,b,c,d⟩
  · exact Ev.pos (by omega) (Ev.now _)
  have T:=toTree_ev l (by omega)
  have hl:(l.map ofE).length≤1048576:=by rw [List.length_map];omega
  have hs:=ofE_smallProve (l:=l) (left:=1048576) (by omega) d
  generalize l.map ofE=X at T hl hs
  have S:=spec_Prove_ev X s w
  have I:Ev (fun _=>impl_Prove.f X s w) (provT X s w):=by
    rw [impl_Prove_eq X hs s (by omega) w]
    exact Ev.now _
  have hu:=provT_len X s w
  generalize provT X s w=R at S I hu
  obtain ⟨R1,R2,R3⟩:=R
  replace hu:R1.length≤s.size+1:=hu
  have Q:=eqProve_ev R1 R2 R3 (by omega)
  obtain ⟨L,m1⟩:=markTree_ev X (by omega)
  obtain ⟨L2,_,m2,h2⟩:=marked_ev R1 (by omega)
  have M2:Ev (fun k=>laws_markProof.f k R1 R2 R3 1) (((1+R1.length:Nat):Int),L2):=by
    unfold laws_markProof.f
    exact Ev.bind m2 (Ev.now _)
  have H2:Ev (fun k=>laws_heldProof.f k L2 R2 R3 1) ((1+R1.length:Nat):Int):=by
    unfold laws_heldProof.f
    exact Ev.bind h2 (Ev.neg (by omega) (Ev.now _))
  have J:Ev (fun k=>laws_FnExactProve.j0 k s w (!true) l R1 R2 R3 R1 R2 R3) true:=by
    refine Ev.step (fun k=>laws_FnExactProve.j0.eq_2 ..) (Ev.neg (by simp) (Ev.bind M2 (Ev.bind H2 (Ev.neg (by omega) (Ev.pos rfl ?_)))))
    exact Ev.bind T (Ev.bind I (Ev.bind Q (Ev.pos rfl (Ev.bind H2 (Ev.neg (by omega) (Ev.pos rfl (Ev.now _)))))))
  exact Ev.neg (by omega) (Ev.bind T (Ev.bind S (Ev.bind T (Ev.bind I (Ev.bind Q (Ev.pos rfl (Ev.bind T (Ev.bind (eqTree_ev X (by omega)) (Ev.pos rfl (Ev.bind m1 (Ev.neg (by omega) (Ev.bind Q J))))))))))))

end Go.Proofs.YthfpoacindblgaaDoor.Pure

