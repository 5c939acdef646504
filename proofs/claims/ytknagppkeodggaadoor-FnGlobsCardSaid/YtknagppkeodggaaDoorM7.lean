/- Several texts of this claim in one file: YtknagppkeodggaaDoorSq173, YtknagppkeodggaaDoorCuts, YtknagppkeodggaaDoorPaths, YtknagppkeodggaaDoorTrees, YtknagppkeodggaaDoorTreeRows, YtknagppkeodggaaDoorSetE, YtknagppkeodggaaDoorPutS, YtknagppkeodggaaDoorMatch, YtknagppkeodggaaDoorMatchParts, YtknagppkeodggaaDoorPick, YtknagppkeodggaaDoorGlobLaws. -/
import Derived.Test.YtknagppkeodggaaDoorM3
import Derived.Test.YtknagppkeodggaaDoorM4
import Derived.Lib.SplitLaws
import Derived.Test.YtknagppkeodggaaDoorM5
namespace Go.Proofs.YtknagppkeodggaaDoor.P
open Go.RowKit Go.Proofs.YtknagppkeodggaaDoorW.PrintWords Go.Proofs.YtknagppkeodggaaDoorW.PrintLast Go.Proofs.YtknagppkeodggaaDoorW.PrintMore
attribute [local go_sem] max2_int min2_int max_two min_two max_three min_three max_four min_four
set_option linter.unusedVariables false
set_option linter.unusedSimpArgs false

theorem isf173_ {w0 W:World} {g:Nat} {f0:List Int} {f1:Int} {p:Addr} {u:Value} (zz1_:IsS173 w0 W g f0 f1) (zz2_:g≠p.block):IsS173 w0 (W.setCell p u) g f0 f1:=IsS173.far zz1_ zz2_ u
theorem iq173 {p q:Prop} (h:q) (f:q→p:=by intro h_;repeat' (first|(with_reducible exact h_)|(with_reducible first|apply IsS173.alloc|apply IsS173.drewN|apply IsS173.drew|apply IsS173.set_1|apply isf173_)|(with_reducible exact Aside0.out (by assumption))|exact h_)):p:=f h
theorem bq173 {p q z:Prop} (h:q) (hi:z) (f:q→z→p:=by intro h_ i_;repeat' (first|(with_reducible exact h_)|(with_reducible first|apply below_alloc|apply pw_below_drewN|apply below_drew1|apply bsq_)|(with_reducible exact Aside0.out (by assumption))|(with_reducible exact IsS173.ge i_)|exact h_)):p:=f h hi
theorem ra173 {w0 W:World} {g:Nat} {f0:List Int} {f1:Int} {W1:World} {α:Type} {d:Kd α} {e base:Nat} {ok:Nat→Prop} {v:Value} {xs:List α} (h:IsS173 w0 W g f0 f1) (ho:d.R e W base ok v xs) (hk:KeepBut W W1 g none) (ht:∀ q,q ∈ e :: d.E→q≠173:=by decide):d.R e W1 base ok v xs:=Kd.R_mono (Kd.R_keep (IsS173.apart h ho ht) hk (fun _ h=>h.2)) (fun _ h=>h.1)

end Go.Proofs.YtknagppkeodggaaDoor.P


namespace Go.Proofs.YtknagppkeodggaaDoor.Pure
open Go Go.RowKit Go.Proofs.YtknagppkeodggaaDoor.P Go.Proofs.YtknagppkeodggaaDoorW.PrintWords Go.Proofs.YtknagppkeodggaaDoorW.PrintLast
set_option linter.unusedVariables false
set_option linter.unusedSimpArgs false

/-- The bytes, cut at each c; cur: what has been read of the piece. -/
def cuts (c:UInt8):List UInt8→List UInt8→List (List UInt8)
  | [],cur => [cur]
  | b :: r,cur=>if b=c then cur :: cuts c r [] else cuts c r (cur ++ [b])
def ofBytes (l:List UInt8):ByteArray:=⟨l.toArray⟩
theorem ofBytes_data (l:List UInt8):(ofBytes l).data.toList=l:=by simp [ofBytes]
theorem ofBytes_of (s:ByteArray):ofBytes s.data.toList=s:=ba_ext (ofBytes_data _)
theorem ofBytes_size (l:List UInt8):(ofBytes l).size=l.length:=by rw [←size_toList,ofBytes_data]
def piecesB (c:UInt8) (s:ByteArray):List ByteArray:=(cuts c s.data.toList []).map ofBytes

theorem cuts_free (c:UInt8):∀ (a cur:List UInt8),c ∉ a→cuts c a cur = [cur++a]
  | [],cur,_=>by rw [cuts,List.append_nil]
  | b :: r, cur, h => by
    rw [cuts,if_neg (fun e:b=c=>h (by rw [e];exact List.mem_cons_self ..)),cuts_free c r _ (fun hm=>h (List.mem_cons_of_mem _ hm)),List.append_assoc]
    rfl
theorem cuts_hit (c:UInt8) (r:List UInt8):∀ (a cur:List UInt8),c ∉ a→cuts c (a++c :: r) cur=(cur++a) :: cuts c r []
  | [],cur,_=>by rw [List.nil_append,cuts,if_pos rfl,List.append_nil]
  | b :: a, cur, h => by
    rw [List.cons_append,cuts,if_neg (fun e:b=c=>h (by rw [e];exact List.mem_cons_self ..)),cuts_hit c r a _ (fun hm=>h (List.mem_cons_of_mem _ hm)),List.append_assoc]
    rfl
theorem cuts_length (c:UInt8):∀ (l cur:List UInt8),(cuts c l cur).length≤l.length+1
  | [],cur=>by simp [cuts]
  | b :: r, cur => by
    rw [cuts]
    split
    · have := cuts_length c r []
      simp only [List.length_cons]
      omega
    · have := cuts_length c r (cur ++ [b])
      simp only [List.length_cons]
      omega
/-- All bytes are in the pieces, but for the cuts. -/
theorem cuts_total (c:UInt8):∀ (l cur:List UInt8),((cuts c l cur).map List.length).sum+(cuts c l cur).length=cur.length+l.length+1
  | [],cur=>by simp [cuts]
  | b :: r, cur => by
    rw [cuts]
    split
    · have := cuts_total c r []
      simp only [List.map_cons,List.sum_cons,List.length_cons,List.length_nil] at this ⊢
      omega
    · have := cuts_total c r (cur ++ [b])
      simp only [List.length_append,List.length_cons,List.length_nil] at this ⊢
      omega
theorem piecesB_length (c:UInt8) (s:ByteArray):(piecesB c s).length≤s.size+1:=by
  unfold piecesB
  rw [List.length_map,←size_toList]
  exact cuts_length c _ _
theorem piecesB_size (c : UInt8) (s : ByteArray) : ∀ p ∈ piecesB c s, p.size ≤ s.size := by
  intro p hp
  unfold piecesB at hp
  obtain ⟨l,hl,rfl⟩:=List.mem_map.1 hp
  have ht:=cuts_total c s.data.toList []
  have h1 : l.length ≤ ((cuts c s.data.toList []).map List.length).sum := by
    have:∀ (L:List (List UInt8)),l ∈ L→l.length≤(L.map List.length).sum:=by
      intro L
      induction L with
      | nil=>intro h;cases h
      | cons a L ih =>
        intro h
        rw [List.map_cons,List.sum_cons]
        rcases List.mem_cons.1 h with rfl|h
        · omega
        · have := ih h
          omega
    exact this _ hl
  have h2:1≤(cuts c s.data.toList []).length:=by
    cases hc:cuts c s.data.toList [] with
    | nil=>rw [hc] at hl;cases hl
    | cons a r=>simp
  rw [ofBytes_size,←size_toList]
  simp only [List.length_nil] at ht
  omega

theorem index_one (c : UInt8) : ∀ l : List UInt8, (Go.Lib.index l [c] = -1 ∧ c ∉ l) ∨ ∃ a r, l = a ++ c :: r ∧ c ∉ a ∧ Go.Lib.index l [c] = (a.length : Int)
  | [] => .inl ⟨by simp [Go.Lib.index],by simp⟩
  | b :: l => by
    by_cases h:b=c
    · subst h
      exact .inr ⟨[],l,rfl,by simp,by rw [Go.Lib.index];simp [List.isPrefixOf]⟩
    · have hp : ([c] : List UInt8).isPrefixOf (b :: l) = false := by simp [List.isPrefixOf, Ne.symm h]
      have hix:Go.Lib.index (b :: l) [c]=if Go.Lib.index l [c] == -1 then -1 else Go.Lib.index l [c]+1:=by rw [Go.Lib.index,hp];simp
      rcases index_one c l with ⟨h1,h2⟩|⟨a,r,h1,h2,h3⟩
      · refine .inl ⟨by rw [hix, h1]; rfl, fun hm => ?_⟩
        rcases List.mem_cons.1 hm with e|hm
        · exact h e.symm
        · exact h2 hm
      · refine .inr ⟨b :: a, r, by rw [h1]; rfl, fun hm => ?_, ?_⟩
        · rcases List.mem_cons.1 hm with e | hm
          · exact h e.symm
          · exact h2 hm
        · rw [hix, h3, if_neg (by simp)]
          simp
theorem splitB_one (c : UInt8) (save : Nat) (hs : save ≤ 1) : ∀ (n : Nat) (s : ByteArray), s.size ≤ n →
    (Go.Lib.splitB ⟨#[c]⟩ save (Go.Lib.countB s ⟨#[c]⟩) s).map (·.data.toList)=(if save=0 then cuts c s.data.toList [] else Go.Lib.splitK [c] save (s.data.toList.count c) s.data.toList):=by
  intro n s hn
  rw [Go.Lib.splitB_data]
  have hc:Go.Lib.countB s ⟨#[c]⟩=s.data.toList.count c:=Go.Lib.count_one c _
  rw [hc]
  by_cases h0:save=0
  · subst h0
    rw [if_pos rfl]
    clear hn hc hs
    generalize s.data.toList=l
    suffices H:∀ (m:Nat) (l:List UInt8),l.length≤m→Go.Lib.splitK [c] 0 (l.count c) l=cuts c l [] from H l.length l (Nat.le_refl _)
    intro m
    induction m with
    | zero =>
      intro l hl
      obtain rfl:l = []:=List.length_eq_zero_iff.1 (by omega)
      rfl
    | succ m ih =>
      intro l hl
      rcases index_one c l with ⟨h1,h2⟩|⟨a,r,h1,h2,h3⟩
      · rw [cuts_free c l [] h2, List.count_eq_zero_of_not_mem h2]
        rfl
      · have hcount : l.count c = r.count c + 1 := by
          rw [h1,List.count_append,List.count_cons_self,List.count_eq_zero_of_not_mem h2]
          omega
        rw [hcount,Go.Lib.splitK,if_neg (by rw [h3];simp),h3,h1,cuts_hit c r a [] h2]
        have e1:(a++c :: r).take ((a.length:Int).toNat+0)=a:=by simp
        have e2:(a++c :: r).drop ((a.length:Int).toNat + [c].length)=r:=by simp
        rw [e1,e2,ih r (by rw [h1,List.length_append,List.length_cons] at hl;omega)]
        rfl
  · rw [if_neg h0]
theorem split_eq (c:UInt8) (s:ByteArray) (hs:s.size<4294967281):strings_Split.f s ⟨#[c]⟩=some (piecesB c s):=by
  unfold strings_Split.f
  rw [if_pos hs,if_pos (by simp [ByteArray.size])]
  congr 1
  have:=splitB_one c 0 (by omega) s.size s (Nat.le_refl _)
  rw [if_pos rfl] at this
  unfold piecesB
  rw [←this,List.map_map]
  have:(ofBytes∘fun x:ByteArray=>x.data.toList)=id:=by
    funext x
    exact ofBytes_of x
  rw [this,List.map_id]

theorem extract_data (s:ByteArray) (a b:Nat):(s.extract a b).data.toList=(s.data.toList.take b).drop a:=by
  rw [ByteArray.data_extract,Array.toList_extract]
  simp [List.extract,List.drop_take]
theorem spec_Pa0 (s : ByteArray) (hs : s.size ≤ 1048576) : ∀ (d i f : Nat) (acc : List ByteArray), i + d = s.size → f ≤ i → acc.length ≤ i →
    Ev (fun k=>spec_l4Parts.l0 k s acc (f:Int) (i:Int)) (acc++(cuts 47 (s.data.toList.drop i) ((s.data.toList.take i).drop f)).map ofBytes)
  | 0, i, f, acc, hd, hf, ha => by
    refine Ev.step (fun k=>spec_l4Parts.l0.eq_2 ..) (Ev.neg (by omega) (Ev.pos (by omega) (Ev.pos (by omega) (Ev.pos (by omega) ?_))))
    rw [List.drop_of_length_le (by rw [size_toList];omega),cuts]
    have:s.extract (f:Int).toNat s.size=ofBytes ((s.data.toList.take i).drop f):=by
      apply ba_ext
      rw [ofBytes_data,extract_data,Int.toNat_natCast,show s.size=i from by omega]
    rw [this]
    exact Ev.now _
  | d + 1, i, f, acc, hd, hf, ha => by
    have hi:i<s.data.toList.length:=by rw [size_toList];omega
    have hb:bt s (i:Int)=(s.data.toList[i].toNat:Int):=by
      rw [bt_getD,List.getD_eq_getElem?_getD,List.getElem?_eq_getElem hi]
      rfl
    have hw:wrap64 ((i:Int)+1)=((i+1:Nat):Int):=by rw [w64 (by omega) (by omega)];omega
    have ht:(s.data.toList.take (i+1)).drop f=(s.data.toList.take i).drop f ++ [s.data.toList[i]]:=by
      rw [List.take_succ_eq_append_getElem hi,List.drop_append_of_le_length (by rw [List.length_take];omega)]
    refine Ev.step (fun k=>spec_l4Parts.l0.eq_2 ..) (Ev.pos (by omega) (Ev.pos (by omega) ?_))
    rw [List.drop_eq_getElem_cons hi,cuts,hb,hw]
    by_cases h:s.data.toList[i]=47
    · rw [if_pos h]
      refine Ev.pos (by rw [h];rfl) (Ev.pos (by omega) (Ev.pos (by omega) (Ev.pos (by omega) (Ev.pos (by omega) ?_))))
      have:=spec_Pa0 s hs d (i+1) (i+1) (acc ++ [s.extract (f:Int).toNat (i:Int).toNat]) (by omega) (by omega) (by simp;omega)
      have e:s.extract (f:Int).toNat (i:Int).toNat=ofBytes ((s.data.toList.take i).drop f):=by
        apply ba_ext
        rw [ofBytes_data,extract_data,Int.toNat_natCast,Int.toNat_natCast]
      rw [e] at this ⊢
      rw [List.drop_of_length_le (l:=s.data.toList.take (i+1)) (by rw [List.length_take];omega)] at this
      simpa using this
    · rw [if_neg h]
      refine Ev.neg (fun e=>h (UInt8.toNat_inj.1 (by have:(47:UInt8).toNat=47:=rfl;omega))) ?_
      have:=spec_Pa0 s hs d (i+1) f acc (by omega) (by omega) (by omega)
      rwa [ht] at this
theorem spec_parts_ev (s:ByteArray) (hs:s.size≤1048576):Ev (fun k=>spec_l4Parts.f k s) (piecesB 47 s):=by
  unfold spec_l4Parts.f piecesB
  have:=spec_Pa0 s hs s.size 0 0 [] (by omega) (by omega) (by simp)
  simpa using this

end Go.Proofs.YtknagppkeodggaaDoor.Pure


namespace Go.Proofs.YtknagppkeodggaaDoor.Pure
open Go Go.RowKit Go.Proofs.YtknagppkeodggaaDoor.P Go.Proofs.YtknagppkeodggaaDoorW.PrintWords Go.Proofs.YtknagppkeodggaaDoorW.PrintLast
set_option linter.unusedVariables false
set_option linter.unusedSimpArgs false

theorem in_eq4 (a b c:Int):spec_l1In.f a b c=some (decide (b≤a∧a≤c)):=by
  unfold spec_l1In.f
  by_cases h:a ≥ b
  · rw [if_pos h]
    congr 1
    simp [h]
  · rw [if_neg h]
    congr 1
    simp [h]
theorem impl_in_eq4 (a b c:Int):impl_in.f a b c=some (decide (b≤a∧a≤c)):=by
  unfold impl_in.f
  by_cases h:a ≥ b
  · rw [if_pos h]
    congr 1
    simp [h]
  · rw [if_neg h]
    congr 1
    simp [h]
def charOk (g:Bool) (b:Int):Bool:=if b<33 then false else if b>126 then false else if b=47 then false else if b=34 then false else if g=true then true else if b=42 then false else if b=63 then false else true
def allOk (g:Bool) (s:ByteArray) (i:Nat):Bool:=(s.data.toList.drop i).all fun b=>charOk g (b.toNat:Int)
def partOk (s:ByteArray) (g:Bool):Bool :=
  if 1≤(s.size:Int)∧(s.size:Int)≤20 then (if s.toList=([46]:List UInt8) then false else if s.toList=([46,46]:List UInt8) then false else allOk g s 0) else false
theorem allOk_step (g:Bool) (s:ByteArray) (i:Nat) (h:i<s.size):allOk g s i=(charOk g (bt s (i:Int))&&allOk g s (i+1)):=by
  have hi:i<s.data.toList.length:=by rw [size_toList];exact h
  unfold allOk
  rw [List.drop_eq_getElem_cons hi,List.all_cons,bt_getD,List.getD_eq_getElem?_getD,List.getElem?_eq_getElem hi]
  rfl
theorem allOk_end (g:Bool) (s:ByteArray) (i:Nat) (h:s.size≤i):allOk g s i=true:=by
  unfold allOk
  rw [List.drop_of_length_le (by rw [size_toList];exact h)]
  rfl
theorem spec_PO0 (s:ByteArray) (g:Bool) (hs:s.size≤20):∀ (d i:Nat),i+d=s.size→Ev (fun k=>spec_l4PartOk.l0 k s g (i:Int)) (allOk g s i)
  | 0, i, hd => by
    rw [allOk_end g s i (by omega)]
    exact Ev.step (fun k=>spec_l4PartOk.l0.eq_2 ..) (Ev.neg (by omega) (Ev.now _))
  | d + 1, i, hd => by
    have hw:wrap64 ((i:Int)+1)=((i+1:Nat):Int):=by rw [w64 (by omega) (by omega)];omega
    have ih:=spec_PO0 s g hs d (i+1) (by omega)
    refine Ev.step (fun k=>spec_l4PartOk.l0.eq_2 ..) (Ev.pos (by omega) (Ev.pos (by omega) ?_))
    rw [allOk_step g s i (by omega),hw]
    unfold charOk
    generalize bt s (i:Int)=b
    by_cases h1:b<33
    · rw [if_pos h1];exact Ev.pos h1 (Ev.now _)
    by_cases h2:b>126
    · rw [if_neg h1,if_pos h2];exact Ev.neg h1 (Ev.pos h2 (Ev.now _))
    by_cases h3:b=47
    · rw [if_neg h1,if_neg h2,if_pos h3];exact Ev.neg h1 (Ev.neg h2 (Ev.pos h3 (Ev.now _)))
    by_cases h4:b=34
    · rw [if_neg h1,if_neg h2,if_neg h3,if_pos h4];exact Ev.neg h1 (Ev.neg h2 (Ev.neg h3 (Ev.pos h4 (Ev.now _))))
    rw [if_neg h1,if_neg h2,if_neg h3,if_neg h4]
    refine Ev.neg h1 (Ev.neg h2 (Ev.neg h3 (Ev.neg h4 ?_)))
    by_cases hg:g=true
    · rw [if_pos hg,Bool.true_and];exact Ev.pos hg ih
    rw [if_neg hg]
    refine Ev.neg hg ?_
    by_cases h5:b=42
    · rw [if_pos h5];exact Ev.pos h5 (Ev.now _)
    by_cases h6:b=63
    · rw [if_neg h5,if_pos h6];exact Ev.neg h5 (Ev.pos h6 (Ev.now _))
    rw [if_neg h5,if_neg h6,Bool.true_and]
    exact Ev.neg h5 (Ev.neg h6 ih)
theorem impl_PO0 (s:ByteArray) (g:Bool) (hs:s.size≤20):∀ (d i:Nat),i+d=s.size→Ev (fun k=>impl_goodPart.l0 k s g (i:Int)) (allOk g s i)
  | 0, i, hd => by
    rw [allOk_end g s i (by omega)]
    exact Ev.step (fun k=>impl_goodPart.l0.eq_2 ..) (Ev.neg (by omega) (Ev.now _))
  | d + 1, i, hd => by
    have hw:wrap64 ((i:Int)+1)=((i+1:Nat):Int):=by rw [w64 (by omega) (by omega)];omega
    have ih:=impl_PO0 s g hs d (i+1) (by omega)
    refine Ev.step (fun k=>impl_goodPart.l0.eq_2 ..) (Ev.pos (by omega) (Ev.pos (by omega) ?_))
    rw [allOk_step g s i (by omega),hw]
    unfold charOk
    generalize bt s (i:Int)=b
    by_cases h1:b<33
    · rw [if_pos h1];exact Ev.pos h1 (Ev.now _)
    by_cases h2:b>126
    · rw [if_neg h1,if_pos h2];exact Ev.neg h1 (Ev.pos h2 (Ev.now _))
    refine Ev.neg h1 (Ev.neg h2 ?_)
    rw [if_neg h1,if_neg h2]
    by_cases h4:b=34
    · rw [if_neg (by omega),if_pos h4];exact Ev.pos h4 (Ev.now _)
    refine Ev.neg h4 ?_
    by_cases h3:b=47
    · rw [if_pos h3];exact Ev.pos h3 (Ev.now _)
    rw [if_neg h3,if_neg h4]
    refine Ev.neg h3 ?_
    by_cases hg:g=true
    · rw [if_pos hg,Bool.true_and];exact Ev.pos hg ih
    rw [if_neg hg]
    refine Ev.neg hg ?_
    by_cases h5:b=42
    · rw [if_pos h5];exact Ev.pos h5 (Ev.now _)
    by_cases h6:b=63
    · rw [if_neg h5,if_pos h6];exact Ev.neg h5 (Ev.pos h6 (Ev.now _))
    rw [if_neg h5,if_neg h6,Bool.true_and]
    exact Ev.neg h5 (Ev.neg h6 ih)
theorem spec_part_ev (s : ByteArray) (g : Bool) : Ev (fun k => spec_l4PartOk.f k s g) (partOk s g) := by
  unfold spec_l4PartOk.f partOk
  rw [in_eq4]
  refine Ev.sb ?_
  have bad:Ev (fun k=>spec_l4PartOk.j0 k s g true) false:=Ev.step (fun k=>spec_l4PartOk.j0.eq_2 ..) (Ev.pos rfl (Ev.now _))
  by_cases h:1≤(s.size:Int)∧(s.size:Int)≤20
  · rw [if_pos h]
    refine Ev.pos (decide_eq_true h) ?_
    by_cases h1:s.toList=([46]:List UInt8)
    · rw [if_pos h1]
      exact Ev.pos h1 bad
    · rw [if_neg h1]
      refine Ev.neg h1 ?_
      by_cases h2:s.toList=([46,46]:List UInt8)
      · rw [if_pos h2, show (s.toList == ([46, 46] : List UInt8)) = true from beq_iff_eq.2 h2]
        exact bad
      · rw [if_neg h2, show (s.toList == ([46, 46] : List UInt8)) = false from beq_eq_false_iff_ne.2 h2]
        exact Ev.step (fun k=>spec_l4PartOk.j0.eq_2 ..) (Ev.neg (by simp) (spec_PO0 s g (by omega) s.size 0 (by omega)))
  · rw [if_neg h]
    exact Ev.neg (by simpa using h) bad
theorem impl_part_ev (s : ByteArray) (g : Bool) : Ev (fun k => impl_goodPart.f k s g) (partOk s g) := by
  unfold impl_goodPart.f partOk
  rw [impl_in_eq4]
  refine Ev.sb ?_
  have bad:Ev (fun k=>impl_goodPart.j0 k s g true) false:=Ev.step (fun k=>impl_goodPart.j0.eq_2 ..) (Ev.pos rfl (Ev.now _))
  by_cases h:1≤(s.size:Int)∧(s.size:Int)≤20
  · rw [if_pos h]
    refine Ev.pos (decide_eq_true h) ?_
    by_cases h1:s.toList=([46]:List UInt8)
    · rw [if_pos h1]
      exact Ev.pos h1 bad
    · rw [if_neg h1]
      refine Ev.neg h1 ?_
      by_cases h2:s.toList=([46,46]:List UInt8)
      · rw [if_pos h2, show (s.toList == ([46, 46] : List UInt8)) = true from beq_iff_eq.2 h2]
        exact bad
      · rw [if_neg h2, show (s.toList == ([46, 46] : List UInt8)) = false from beq_eq_false_iff_ne.2 h2]
        exact Ev.step (fun k=>impl_goodPart.j0.eq_2 ..) (Ev.neg (by simp) (impl_PO0 s g (by omega) s.size 0 (by omega)))
  · rw [if_neg h]
    exact Ev.neg (by simpa using h) bad

/-- A path or a glob holds. -/
def pathOk (s:ByteArray) (g:Bool):Bool:=if (piecesB 47 s).length>6 then false else (piecesB 47 s).all fun p=>partOk p g
theorem rdB_eq {l:List ByteArray} {i:Nat} (h:i<l.length):rdOf ByteArray.empty l (i:Int)=l[i]:=by
  unfold rdOf
  rw [Int.toNat_natCast,List.getD_eq_getElem?_getD,List.getElem?_eq_getElem h]
  rfl
theorem spec_Ok0 (g:Bool) (l:List ByteArray) (hl:l.length≤6):∀ (d i:Nat),i+d=l.length→Ev (fun k=>spec_l4Ok.l0 k g l (i:Int)) ((l.drop i).all fun p=>partOk p g)
  | 0, i, hd => by
    rw [List.drop_of_length_le (by omega)]
    exact Ev.step (fun k=>spec_l4Ok.l0.eq_2 ..) (Ev.neg (by omega) (Ev.now _))
  | d + 1, i, hd => by
    have hi:i<l.length:=by omega
    refine Ev.step (fun k=>spec_l4Ok.l0.eq_2 ..) (Ev.pos (by omega) (Ev.pos (by omega) ?_))
    rw [rdB_eq hi,List.drop_eq_getElem_cons hi,List.all_cons,w64 (by omega) (by omega),show (i:Int)+1=((i+1:Nat):Int) from by omega]
    refine Ev.bind (spec_part_ev l[i] g) ?_
    by_cases h:partOk l[i] g=true
    · rw [h, Bool.true_and]
      exact Ev.pos rfl (spec_Ok0 g l hl d (i+1) (by omega))
    · rw [Bool.eq_false_iff.2 h, Bool.false_and]
      exact Ev.neg (by simp) (Ev.now _)
theorem impl_Ok0 (g:Bool) (l:List ByteArray) (hl:l.length≤6):∀ (d i:Nat),i+d=l.length→Ev (fun k=>impl_parts.l0 k g l (l.length:Int) (i:Int)) ((l.drop i).all fun p=>partOk p g)
  | 0, i, hd => by
    rw [List.drop_of_length_le (by omega)]
    exact Ev.step (fun k=>impl_parts.l0.eq_2 ..) (Ev.neg (by omega) (Ev.now _))
  | d + 1, i, hd => by
    have hi:i<l.length:=by omega
    refine Ev.step (fun k=>impl_parts.l0.eq_2 ..) (Ev.pos (by omega) (Ev.pos (by omega) (Ev.pos (by omega) ?_)))
    rw [rdB_eq hi,List.drop_eq_getElem_cons hi,List.all_cons,w64 (by omega) (by omega),show (i:Int)+1=((i+1:Nat):Int) from by omega]
    refine Ev.bind (impl_part_ev l[i] g) ?_
    by_cases h:partOk l[i] g=true
    · rw [h, Bool.true_and]
      exact Ev.pos rfl (impl_Ok0 g l hl d (i+1) (by omega))
    · rw [Bool.eq_false_iff.2 h, Bool.false_and]
      exact Ev.neg (by simp) (Ev.now _)
theorem pathOk_long (s : ByteArray) (g : Bool) (h : 126 < s.size) : pathOk s g = false := by
  unfold pathOk
  split
  · rfl
  · rename_i h6
    apply Bool.eq_false_iff.2
    intro hall
    have ht:=cuts_total 47 s.data.toList []
    have hall':∀ l ∈ cuts 47 s.data.toList [],l.length≤20:=by
      intro l hl
      have:=List.all_eq_true.1 hall (ofBytes l) (List.mem_map.2 ⟨l,hl,rfl⟩)
      unfold partOk at this
      by_cases hz:1≤((ofBytes l).size:Int)∧((ofBytes l).size:Int)≤20
      · rw [ofBytes_size] at hz
        omega
      · rw [if_neg hz] at this
        cases this
    have hsum:∀ (L:List (List UInt8)),(∀ l ∈ L,l.length≤20)→(L.map List.length).sum≤20*L.length:=by
      intro L
      induction L with
      | nil=>intro _;simp
      | cons a L ih =>
        intro hL
        have:=ih (fun l hl=>hL l (List.mem_cons_of_mem _ hl))
        have:=hL a (List.mem_cons_self ..)
        simp only [List.map_cons,List.sum_cons,List.length_cons]
        omega
    have:=hsum _ hall'
    unfold piecesB at h6
    rw [List.length_map] at h6
    rw [size_toList] at ht
    simp only [List.length_nil] at ht
    omega
theorem spec_ok_ev (s:ByteArray) (g:Bool):Ev (fun k=>spec_l4Ok.f k s g) (pathOk s g):=by
  unfold spec_l4Ok.f
  by_cases h:(s.size:Int)>126
  · rw [pathOk_long s g (by omega)]
    exact Ev.pos h (Ev.now _)
  · refine Ev.neg h (Ev.bind (spec_parts_ev s (by omega)) ?_)
    unfold pathOk
    by_cases h6:(piecesB 47 s).length>6
    · rw [if_pos h6]
      exact Ev.pos (by omega) (Ev.now _)
    · rw [if_neg h6]
      exact Ev.neg (by omega) (spec_Ok0 g (piecesB 47 s) (by omega) (piecesB 47 s).length 0 (by omega))
theorem impl_parts_ev (s:ByteArray) (hs:s.size≤1048576) (g:Bool):Ev (fun k=>impl_parts.f k s g) (pathOk s g):=by
  unfold impl_parts.f pathOk
  rw [split_eq 47 s (by omega)]
  refine Ev.sb ?_
  by_cases h6:(piecesB 47 s).length>6
  · rw [if_pos h6]
    exact Ev.pos (by omega) (Ev.now _)
  · rw [if_neg h6]
    exact Ev.neg (by omega) (impl_Ok0 g (piecesB 47 s) (by omega) (piecesB 47 s).length 0 (by omega))

end Go.Proofs.YtknagppkeodggaaDoor.Pure


namespace Go.Proofs.YtknagppkeodggaaDoor.Pure
open Go Go.RowKit Go.Proofs.YtknagppkeodggaaDoor.P Go.Proofs.YtknagppkeodggaaDoorW.PrintWords Go.Proofs.YtknagppkeodggaaDoorW.PrintLast
set_option linter.unusedVariables false
set_option linter.unusedSimpArgs false

theorem spec_path_ev (s:ByteArray):Ev (fun k=>spec_ValidPath.f k s) (pathOk s false):=by
  unfold spec_ValidPath.f
  exact Ev.bind (spec_ok_ev s false) (Ev.now _)
theorem impl_path_ev (s:ByteArray) (h:s.size≤1048576):Ev (fun k=>impl_ValidPath.f k s) (pathOk s false):=by
  unfold impl_ValidPath.f
  exact Ev.bind (impl_parts_ev s h false) (Ev.now _)
theorem spec_begins_eq (a b : ByteArray) : spec_l5Begins.f a b = some (begins a b) := by
  unfold spec_l5Begins.f
  have h:=begins_iff a b
  by_cases h1:(b.size:Int)>(a.size:Int)
  · rw [if_pos h1, if_pos (by omega), if_pos (by omega), Int.toNat_natCast]
    by_cases h2:(b.extract 0 a.size).toList=a.toList
    · rw [if_pos h2, if_pos (by omega)]
      have h3:b.extract 0 a.size=a:=ba_ext (by rw [←Lib.toList_data,h2,Lib.toList_data])
      congr 1
      by_cases h4:bt b (a.size:Int)=47
      · rw [h.2 ⟨by omega, h3, h4⟩, h4]
        rfl
      · rw [Bool.eq_false_iff.2 (fun hh => h4 (h.1 hh).2.2)]
        exact beq_eq_false_iff_ne.2 h4
    · rw [if_neg h2,show begins a b=false from Bool.eq_false_iff.2 (fun hh=>h2 (by rw [(h.1 hh).2.1]))]
  · rw [if_neg h1,show begins a b=false from Bool.eq_false_iff.2 (fun hh=>h1 (by have:=(h.1 hh).1;omega))]
theorem impl_over_eq (a b:ByteArray) (ha:a.size≤1048576):impl_over.f a b=some (begins a b):=by
  unfold impl_over.f strings_HasPrefix.f stringslite_HasPrefix.f
  rw [if_pos (by omega)]
  have e:(a++(⟨#[47]⟩:ByteArray)).size=a.size+1:=ByteArray.size_append
  have ed:(a++(⟨#[47]⟩:ByteArray)).data.toList=a.data.toList ++ [47]:=data_append _ _
  have hb:begins a b=true ↔ (a++(⟨#[47]⟩:ByteArray)).data.toList <+: b.data.toList:=by
    unfold begins Lib.hasPrefix
    rw [List.isPrefixOf_iff_prefix,ed]
  rw [List.prefix_iff_eq_take] at hb
  have hx:(b.extract 0 (a++(⟨#[47]⟩:ByteArray)).size).data.toList=b.data.toList.take (a++(⟨#[47]⟩:ByteArray)).data.toList.length:=by
    rw [ByteArray.data_extract,Array.toList_extract,List.extract_eq_take_drop,List.drop_zero,Nat.sub_zero,size_toList]
  by_cases h1:(b.size:Int) ≥ ((a++(⟨#[47]⟩:ByteArray)).size:Int)
  · rw [if_pos h1, if_pos (by omega), if_pos (by omega), Int.toNat_natCast]
    show some ((b.extract 0 (a++(⟨#[47]⟩:ByteArray)).size).toList==(a++(⟨#[47]⟩:ByteArray)).toList)=some (begins a b)
    congr 1
    rw [Lib.toList_data,Lib.toList_data,hx]
    by_cases h2:begins a b=true
    · rw [h2, ← hb.1 h2]
      exact beq_self_eq_true _
    · rw [Bool.eq_false_iff.2 h2]
      exact beq_eq_false_iff_ne.2 (fun hh=>h2 (hb.2 hh.symm))
  · rw [if_neg h1]
    show some false=_
    rw [show begins a b=false from Bool.eq_false_iff.2 (fun hh=>h1 (by
      have:=((begins_iff a b).1 hh).1
      omega))]

/-- One of the rows behind i (d of them) lies over p. -/
def anyOver (l:List Entry) (p:ByteArray):Nat→Nat→Bool
  | 0,_=>false
  | d+1,i=>if begins (rd_T27 l (i:Int)).f0 p=true then true else anyOver l p d (i+1)
def entryOk (e:Entry):Bool:=if pathOk e.f0 false=true then decide ((e.f1.size:Int)≤1500) else false
def rowOk (l:List Entry) (i:Nat):Bool :=
  if entryOk (rd_T27 l (i:Int))=true then (if (i:Int)>0 then Op.bytesLess (rd_T27 l ((i:Int) - 1)).f0.toList (rd_T27 l (i:Int)).f0.toList else true) else false
def treeFrom (l:List Entry):Nat→Nat→Bool
  | 0,_=>true
  | d+1,i=>if rowOk l i=true then (if anyOver l (rd_T27 l (i:Int)).f0 i 0=true then false else treeFrom l d (i+1)) else false
def treeOk (l:List Entry):Bool:=if (l.length:Int)>100 then false else treeFrom l l.length 0

theorem spec_VT1 (l:List Entry) (hl:l.length≤100) (n:Nat) (hn:n<l.length) (p t:ByteArray) (u R:Bool) (hR:Ev (fun k=>spec_ValidTree.l0 k ((n:Int)+1) l) R):∀ (d j:Nat),j+d=n →
    Ev (fun k=>spec_ValidTree.l1 k (n:Int) (j:Int) l p t u) (if anyOver l p d j=true then false else R)
  | 0, j, hd => by
    rw [anyOver,if_neg (by simp)]
    refine Ev.step (fun k=>spec_ValidTree.l1.eq_2 ..) (Ev.neg (by omega) ?_)
    rw [w64 (n:=(n:Int)+1) (by omega) (by omega)]
    exact hR
  | d + 1, j, hd => by
    refine Ev.step (fun k=>spec_ValidTree.l1.eq_2 ..) (Ev.pos (by omega) (Ev.pos (by omega) (Ev.pos (by omega) ?_)))
    rw [spec_begins_eq,anyOver,w64 (n:=(j:Int)+1) (by omega) (by omega)]
    refine Ev.sb ?_
    by_cases h:begins (rd_T27 l (j:Int)).f0 p=true
    · rw [if_pos h, if_pos rfl]
      exact Ev.pos h (Ev.now _)
    · rw [if_neg h]
      exact Ev.neg h (spec_VT1 l hl n hn p t u R hR d (j+1) (by omega))
theorem spec_VT0 (l : List Entry) (hl : l.length ≤ 100) : ∀ (d i : Nat), i + d = l.length → Ev (fun k => spec_ValidTree.l0 k (i : Int) l) (treeFrom l d i)
  | 0, i, hd => by
    rw [treeFrom]
    exact Ev.step (fun k=>spec_ValidTree.l0.eq_2 ..) (Ev.neg (by omega) (Ev.now _))
  | d + 1, i, hd => by
    have ih:=spec_VT0 l hl d (i+1) (by omega)
    rw [show ((i+1:Nat):Int)=(i:Int)+1 from by omega] at ih
    refine Ev.step (fun k=>spec_ValidTree.l0.eq_2 ..) (Ev.pos (by omega) (Ev.pos (by omega) (Ev.bind (spec_path_ev _) ?_)))
    rw [treeFrom]
    have L:=fun p t u=>spec_VT1 l hl i (by omega) p t u _ ih i 0 (by omega)
    have jt:∀ p t u,Ev (fun k=>spec_ValidTree.j1 k (i:Int) true l p t u) false:=fun p t u=>Ev.step (fun k=>spec_ValidTree.j1.eq_2 ..) (Ev.pos rfl (Ev.now _))
    have jf:∀ p t u R,Ev (fun k=>spec_ValidTree.l1 k (i:Int) 0 l p t u) R→Ev (fun k=>spec_ValidTree.j1 k (i:Int) false l p t u) R:=fun p t u R h=>Ev.step (fun k=>spec_ValidTree.j1.eq_2 ..) (Ev.neg (by simp) h)
    by_cases h1:pathOk (rd_T27 l (i:Int)).f0 false=true
    · refine Ev.pos h1 ?_
      by_cases h2:((rd_T27 l (i:Int)).f1.size:Int)>1500
      · have e : rowOk l i = false := by
          unfold rowOk entryOk
          rw [if_pos h1,decide_eq_false (by omega)]
          rfl
        rw [e,if_neg (by simp)]
        exact Ev.pos h2 (jt _ _ _)
      · have e0 : entryOk (rd_T27 l (i : Int)) = true := by
          unfold entryOk
          rw [if_pos h1,decide_eq_true (by omega)]
        refine Ev.neg h2 ?_
        by_cases h3:(i:Int)>0
        · refine Ev.pos h3 ?_
          rw [w64 (n:=(i:Int) - 1) (by omega) (by omega)]
          refine Ev.pos (by omega) (Ev.pos (by omega) ?_)
          have e:rowOk l i=Op.bytesLess (rd_T27 l ((i:Int) - 1)).f0.toList (rd_T27 l (i:Int)).f0.toList:=by
            unfold rowOk
            rw [if_pos e0,if_pos h3]
          rw [e]
          by_cases h4:Op.bytesLess (rd_T27 l ((i:Int) - 1)).f0.toList (rd_T27 l (i:Int)).f0.toList=true
          · rw [if_pos h4, h4]
            exact jf _ _ _ _ (L _ _ _)
          · rw [if_neg h4, Bool.eq_false_iff.2 h4]
            exact jt _ _ _
        · have e : rowOk l i = true := by
            unfold rowOk
            rw [if_pos e0,if_neg h3]
          rw [e,if_pos rfl]
          exact Ev.neg h3 (jf _ _ _ _ (L _ _ _))
    · have e : rowOk l i = false := by
        unfold rowOk entryOk
        rw [if_neg h1]
        rfl
      rw [e,if_neg (by simp)]
      exact Ev.neg h1 (jt _ _ _)
theorem spec_ValidTree_ev (l:List Entry):Ev (fun k=>spec_ValidTree.f k l) (treeOk l):=by
  unfold spec_ValidTree.f treeOk
  by_cases h:(l.length:Int)>100
  · rw [if_pos h]
    exact Ev.pos h (Ev.now _)
  · rw [if_neg h]
    exact Ev.neg h (spec_VT0 l (by omega) l.length 0 (by omega))
theorem impl_VT1 (l:List Entry) (hl:l.length≤100) (hz:∀ i:Nat,(rd_T27 l (i:Int)).f0.size≤1048576) (n:Nat) (hn:n<l.length) (p t:ByteArray) (u R:Bool) (hR:Ev (fun k=>impl_ValidTree.l0 k l (l.length:Int) ((n:Int)+1) l) R):∀ (d j:Nat),j+d=n →
    Ev (fun k=>impl_ValidTree.l1 k (n:Int) (j:Int) l (l.length:Int) (n:Int) l p t u) (if anyOver l p d j=true then false else R)
  | 0, j, hd => by
    rw [anyOver,if_neg (by simp)]
    refine Ev.step (fun k=>impl_ValidTree.l1.eq_2 ..) (Ev.neg (by omega) ?_)
    rw [w64 (n:=(n:Int)+1) (by omega) (by omega)]
    exact hR
  | d + 1, j, hd => by
    refine Ev.step (fun k=>impl_ValidTree.l1.eq_2 ..) (Ev.pos (by omega) (Ev.pos (by omega) (Ev.pos (by omega) ?_)))
    rw [impl_over_eq _ _ (hz j),anyOver,w64 (n:=(j:Int)+1) (by omega) (by omega)]
    refine Ev.sb ?_
    by_cases h:begins (rd_T27 l (j:Int)).f0 p=true
    · rw [if_pos h, if_pos rfl]
      exact Ev.pos h (Ev.now _)
    · rw [if_neg h]
      exact Ev.neg h (impl_VT1 l hl hz n hn p t u R hR d (j+1) (by omega))
theorem impl_goodEntry_ev (p t:ByteArray) (u:Bool) (h:p.size≤1048576):Ev (fun k=>impl_goodEntry.f k p t u) (entryOk ⟨p,t,u⟩):=by
  unfold impl_goodEntry.f entryOk
  exact Ev.bind (impl_path_ev p h) (Ev.both (fun _=>Ev.now _) (fun _=>Ev.now _))
theorem impl_VT0 (l : List Entry) (hl : l.length ≤ 100) (hz : ∀ i : Nat, (rd_T27 l (i : Int)).f0.size ≤ 1048576) : ∀ (d i : Nat), i + d = l.length → Ev (fun k => impl_ValidTree.l0 k l (l.length : Int) (i : Int) l) (treeFrom l d i)
  | 0, i, hd => by
    rw [treeFrom]
    exact Ev.step (fun k=>impl_ValidTree.l0.eq_2 ..) (Ev.neg (by omega) (Ev.now _))
  | d + 1, i, hd => by
    have ih:=impl_VT0 l hl hz d (i+1) (by omega)
    rw [show ((i+1:Nat):Int)=(i:Int)+1 from by omega] at ih
    refine Ev.step (fun k=>impl_ValidTree.l0.eq_2 ..) (Ev.pos (by omega) (Ev.pos (by omega) (Ev.pos (by omega) (Ev.bind (impl_goodEntry_ev _ _ _ (hz i)) ?_))))
    rw [treeFrom]
    have L:=fun p t u=>impl_VT1 l hl hz i (by omega) p t u _ ih i 0 (by omega)
    have jt:∀ p t u,Ev (fun k=>impl_ValidTree.j1 k (i:Int) l (l.length:Int) (i:Int) true l p t u) false:=fun p t u=>Ev.step (fun k=>impl_ValidTree.j1.eq_2 ..) (Ev.pos rfl (Ev.now _))
    have jf:∀ p t u R,Ev (fun k=>impl_ValidTree.l1 k (i:Int) 0 l (l.length:Int) (i:Int) l p t u) R→Ev (fun k=>impl_ValidTree.j1 k (i:Int) l (l.length:Int) (i:Int) false l p t u) R:=fun p t u R h=>Ev.step (fun k=>impl_ValidTree.j1.eq_2 ..) (Ev.neg (by simp) h)
    have he:(⟨(rd_T27 l (i:Int)).f0,(rd_T27 l (i:Int)).f1,(rd_T27 l (i:Int)).f2⟩:Entry)=rd_T27 l (i:Int):=rfl
    rw [he]
    by_cases h1:entryOk (rd_T27 l (i:Int))=true
    · refine Ev.pos h1 ?_
      by_cases h3:(i:Int)>0
      · refine Ev.pos h3 ?_
        rw [w64 (n:=(i:Int) - 1) (by omega) (by omega)]
        refine Ev.pos (by omega) (Ev.pos (by omega) ?_)
        have e:rowOk l i=Op.bytesLess (rd_T27 l ((i:Int) - 1)).f0.toList (rd_T27 l (i:Int)).f0.toList:=by
          unfold rowOk
          rw [if_pos h1,if_pos h3]
        rw [e]
        by_cases h4:Op.bytesLess (rd_T27 l ((i:Int) - 1)).f0.toList (rd_T27 l (i:Int)).f0.toList=true
        · rw [if_pos h4, h4]
          exact jf _ _ _ _ (L _ _ _)
        · rw [if_neg h4, Bool.eq_false_iff.2 h4]
          exact jt _ _ _
      · have e : rowOk l i = true := by
          unfold rowOk
          rw [if_pos h1,if_neg h3]
        rw [e,if_pos rfl]
        exact Ev.neg h3 (jf _ _ _ _ (L _ _ _))
    · have e : rowOk l i = false := by
        unfold rowOk
        rw [if_neg h1]
      rw [e,if_neg (by simp)]
      exact Ev.neg h1 (jt _ _ _)
theorem rdE_small {l:List Entry} (h:∀ e ∈ l,e.f0.size≤1048576) (i:Nat):(rd_T27 l (i:Int)).f0.size≤1048576:=by
  by_cases hi:i<l.length
  · rw [rdE_eq hi]
    exact h _ (List.getElem_mem hi)
  · have : rd_T27 l (i : Int) = z27 := by
      show l.getD (i:Int).toNat _=_
      rw [Int.toNat_natCast,List.getD_eq_getElem?_getD,List.getElem?_eq_none (by omega)]
      rfl
    rw [this]
    decide
theorem impl_ValidTree_ev (l:List Entry) (hz:∀ e ∈ l,e.f0.size≤1048576):Ev (fun k=>impl_ValidTree.f k l) (treeOk l):=by
  unfold impl_ValidTree.f treeOk
  by_cases h:(l.length:Int)>100
  · rw [if_pos h]
    exact Ev.pos h (Ev.now _)
  · rw [if_neg h]
    exact Ev.neg h (impl_VT0 l (by omega) (rdE_small hz) l.length 0 (by omega))

end Go.Proofs.YtknagppkeodggaaDoor.Pure


namespace Go.Proofs.YtknagppkeodggaaDoor.Pure
open Go Go.RowKit Go.Proofs.YtknagppkeodggaaDoor.P Go.Proofs.YtknagppkeodggaaDoorW.PrintWords Go.Proofs.YtknagppkeodggaaDoorW.PrintLast
set_option linter.unusedVariables false
set_option linter.unusedSimpArgs false

theorem treeFrom_rows (l : List Entry) : ∀ (d i : Nat), treeFrom l d i = true → ∀ j, i ≤ j → j < i + d → rowOk l j = true
  | 0,i,h,j,h1,h2=>by omega
  | d + 1, i, h, j, h1, h2 => by
    unfold treeFrom at h
    split at h
    · rename_i hr
      split at h
      · cases h
      · rcases Nat.eq_or_lt_of_le h1 with rfl | h3
        · exact hr
        · exact treeFrom_rows l d (i+1) h j (by omega) (by omega)
    · cases h
theorem treeOk_rows {l:List Entry} (h:treeOk l=true) (j:Nat) (hj:j<l.length):rowOk l j=true:=by
  unfold treeOk at h
  split at h
  · cases h
  · exact treeFrom_rows l _ _ h j (by omega) (by omega)
/-- The rows' paths ascend. -/
theorem treeOk_next {l:List Entry} (h:treeOk l=true) (j:Nat) (hj:j+1<l.length):less (l[j].f0.toList) (l[j+1].f0.toList)=true:=by
  have:=treeOk_rows h (j+1) hj
  unfold rowOk at this
  split at this
  · rw [if_pos (by omega), show ((j + 1 : Nat) : Int) - 1 = (j : Int) from by omega, rdE_eq (show j < l.length by omega), rdE_eq hj] at this
    exact this
  · cases this
theorem treeOk_asc {l:List Entry} (h:treeOk l=true):∀ (d i:Nat) (hj:i+d+1<l.length),less (l[i].f0.toList) (l[i+d+1].f0.toList)=true
  | 0,i,hj=>treeOk_next h i hj
  | d+1,i,hj=>less_trans _ _ _ (treeOk_asc h d i (by omega)) (treeOk_next h (i+d+1) (by omega))
theorem treeOk_lt {l:List Entry} (h:treeOk l=true) {i j:Nat} (hij:i<j) (hj:j<l.length):less (l[i].f0.toList) (l[j].f0.toList)=true:=by
  have:=treeOk_asc h (j - i - 1) i (by omega)
  simp only [show i+(j - i - 1)+1=j from by omega] at this
  exact this

end Go.Proofs.YtknagppkeodggaaDoor.Pure


namespace Go.Proofs.YtknagppkeodggaaDoor.Pure
open Go Go.RowKit Go.Proofs.YtknagppkeodggaaDoor.P Go.Proofs.YtknagppkeodggaaDoorW.PrintWords Go.Proofs.YtknagppkeodggaaDoorW.PrintLast
set_option linter.unusedVariables false
set_option linter.unusedSimpArgs false

/-- The entry lies elsewhere. -/
def notAt (p:ByteArray) (z:Entry):Bool:=!decide (z.f0.toList=p.toList)
def setR (e:Entry):List Entry→List Entry
  | [] => [e]
  | y :: r=>if less y.f0.toList e.f0.toList=true then y :: setR e r else e :: (y :: r).filter (notAt e.f0)
theorem spec_S_done (l:List Entry) (hl:l.length≤1000) (p t:ByteArray) (u:Bool):∀ (d i:Nat) (acc:List Entry),i+d=l.length→acc.length≤i+1→Ev (fun k=>spec_l5Set.l0 k true (i:Int) l p t u acc) (acc++(l.drop i).filter (notAt p))
  | 0, i, acc, hd, ha => by
    rw [List.drop_of_length_le (by omega)]
    refine Ev.step (fun k=>spec_l5Set.l0.eq_2 ..) (Ev.neg (by omega) (Ev.pos rfl ?_))
    show Ev _ (acc ++ [])
    rw [List.append_nil]
    exact Ev.now _
  | d + 1, i, acc, hd, ha => by
    have hi:i<l.length:=by omega
    refine Ev.step (fun k=>spec_l5Set.l0.eq_2 ..) (Ev.pos (by omega) (Ev.pos rfl (Ev.step (fun k=>spec_l5Set.j1.eq_2 ..) (Ev.neg (by simp) (Ev.pos (by omega) (Ev.pos (by omega) ?_))))))
    rw [rdE_eq hi,w64 (n:=(i:Int)+1) (by omega) (by omega),show (i:Int)+1=((i+1:Nat):Int) from by omega,List.drop_eq_getElem_cons hi]
    by_cases h:l[i].f0.toList=p.toList
    · rw [List.filter_cons_of_neg (by simp [notAt, h])]
      exact Ev.pos h (spec_S_done l hl p t u d (i+1) acc (by omega) (by omega))
    · rw [List.filter_cons_of_pos (by simp [notAt, h]), List.append_cons acc l[i] (List.filter (notAt p) (l.drop (i + 1)))]
      exact Ev.neg h (Ev.pos (by omega) (spec_S_done l hl p t u d (i+1) (acc ++ [l[i]]) (by omega) (by rw [List.length_append,List.length_singleton];omega)))
theorem spec_S_open (l : List Entry) (hl : l.length ≤ 1000) (p t : ByteArray) (u : Bool) : ∀ (d i : Nat) (acc : List Entry), i + d = l.length → acc.length ≤ i → Ev (fun k => spec_l5Set.l0 k false (i : Int) l p t u acc) (acc ++ setR ⟨p, t, u⟩ (l.drop i))
  | 0, i, acc, hd, ha => by
    rw [List.drop_of_length_le (by omega)]
    exact Ev.step (fun k=>spec_l5Set.l0.eq_2 ..) (Ev.neg (by omega) (Ev.neg (by simp) (Ev.pos (by omega) (Ev.now _))))
  | d + 1, i, acc, hd, ha => by
    have hi:i<l.length:=by omega
    refine Ev.step (fun k=>spec_l5Set.l0.eq_2 ..) (Ev.pos (by omega) (Ev.neg (by simp) (Ev.pos (by omega) (Ev.step (fun k=>spec_l5Set.j1.eq_2 ..) ?_))))
    rw [rdE_eq hi,w64 (n:=(i:Int)+1) (by omega) (by omega),show (i:Int)+1=((i+1:Nat):Int) from by omega,List.drop_eq_getElem_cons hi]
    by_cases hlt:Op.bytesLess l[i].f0.toList p.toList=true
    · have h : ¬ l[i].f0.toList = p.toList := fun e => by
        rw [e] at hlt
        have:=less_irrefl p.toList
        unfold less at this
        rw [this] at hlt
        cases hlt
      have e:setR ⟨p,t,u⟩ (l[i] :: l.drop (i+1))=l[i] :: setR ⟨p,t,u⟩ (l.drop (i+1)):=by
        conv=>lhs;unfold setR
        exact if_pos hlt
      rw [e,List.append_cons acc l[i] (setR ⟨p,t,u⟩ (l.drop (i+1)))]
      exact Ev.neg (by rw [hlt];simp) (Ev.pos (by omega) (Ev.pos (by omega) (Ev.neg h (Ev.pos (by omega) (spec_S_open l hl p t u d (i+1) (acc ++ [l[i]]) (by omega) (by rw [List.length_append,List.length_singleton];omega))))))
    · have e : setR ⟨p, t, u⟩ (l[i] :: l.drop (i + 1)) = ⟨p, t, u⟩ :: (l[i] :: l.drop (i + 1)).filter (notAt p) := by
        conv=>lhs;unfold setR
        exact if_neg hlt
      rw [e]
      refine Ev.pos (by rw [Bool.eq_false_iff.2 hlt];rfl) (Ev.pos (by omega) (Ev.sb (Ev.pos (by omega) (Ev.pos (by omega) ?_))))
      by_cases h:l[i].f0.toList=p.toList
      · rw [List.filter_cons_of_neg (by simp [notAt, h]), List.append_cons acc ⟨p, t, u⟩ (List.filter (notAt p) (l.drop (i + 1)))]
        exact Ev.pos h (spec_S_done l hl p t u d (i+1) (acc ++ [⟨p,t,u⟩]) (by omega) (by rw [List.length_append,List.length_singleton];omega))
      · rw [List.filter_cons_of_pos (by simp [notAt, h]), List.append_cons acc ⟨p, t, u⟩ (l[i] :: List.filter (notAt p) (l.drop (i + 1))), List.append_cons (acc ++ [(⟨p, t, u⟩ : Entry)]) l[i] (List.filter (notAt p) (l.drop (i + 1)))]
        exact Ev.neg h (Ev.pos (by rw [List.length_append,List.length_singleton];omega) (spec_S_done l hl p t u d (i+1) (acc ++ [⟨p,t,u⟩] ++ [l[i]]) (by omega) (by simp only [List.length_append,List.length_singleton];omega)))
theorem spec_set_ev (l:List Entry) (hl:l.length≤1000) (p t:ByteArray) (u:Bool):Ev (fun k=>spec_l5Set.f k l p t u) (setR ⟨p,t,u⟩ l):=by
  unfold spec_l5Set.f
  exact spec_S_open l hl p t u l.length 0 [] (by omega) (by simp)
theorem notAt_iff {p:ByteArray} {z:Entry}:notAt p z=true ↔ z.f0.toList≠p.toList:=by
  unfold notAt
  simp
theorem setR_len (e:Entry):∀ l,(setR e l).length≤l.length+1
  | []=>by simp [setR]
  | y :: r => by
    unfold setR
    split
    · have := setR_len e r
      simp only [List.length_cons]
      omega
    · have := List.length_filter_le (notAt e.f0) (y :: r)
      simp only [List.length_cons] at this ⊢
      omega
theorem setR_mem (e : Entry) : ∀ (l : List Entry) (x : Entry), x ∈ setR e l ↔ x = e ∨ (x ∈ l ∧ x.f0.toList ≠ e.f0.toList)
  | [],x=>by simp [setR]
  | y :: r, x => by
    unfold setR
    split
    · rename_i hlt
      have hy:y.f0.toList≠e.f0.toList:=fun h=>by
        rw [h,less_irrefl] at hlt
        cases hlt
      rw [List.mem_cons,setR_mem e r x,List.mem_cons]
      constructor
      · rintro (rfl | rfl | ⟨h1, h2⟩)
        · exact .inr ⟨.inl rfl,hy⟩
        · exact .inl rfl
        · exact .inr ⟨.inr h1,h2⟩
      · rintro (rfl | ⟨rfl | h1, h2⟩)
        · exact .inr (.inl rfl)
        · exact .inl rfl
        · exact .inr (.inr ⟨h1,h2⟩)
    · rw [List.mem_cons,List.mem_filter,notAt_iff]
theorem setR_asc (e : Entry) : ∀ l : List Entry, l.Pairwise ltE → (setR e l).Pairwise ltE
  | [],_=>List.pairwise_singleton _ _
  | y :: r, h => by
    have h':=h
    obtain ⟨h1,h2⟩:=List.pairwise_cons.1 h'
    unfold setR
    split
    · rename_i hlt
      refine List.pairwise_cons.2 ⟨fun z hz => ?_,setR_asc e r h2⟩
      rcases (setR_mem e r z).1 hz with rfl|⟨hz,_⟩
      · exact hlt
      · exact h1 z hz
    · rename_i hlt
      refine List.pairwise_cons.2 ⟨fun z hz => ?_,h.filter _⟩
      obtain ⟨hz,hn⟩:=List.mem_filter.1 hz
      rw [notAt_iff] at hn
      by_cases hy:y.f0.toList=e.f0.toList
      · rcases List.mem_cons.1 hz with rfl | hz
        · exact absurd hy hn
        · have := h1 z hz
          unfold ltE at this ⊢
          rw [←hy]
          exact this
      · have hey : ltE e y := less_or (Bool.eq_false_iff.2 hlt) hy
        rcases List.mem_cons.1 hz with rfl|hz
        · exact hey
        · exact ltE_trans hey (h1 z hz)
theorem asc_apart {l:List Entry} (h:l.Pairwise ltE):Apart l:=h.imp fun {a b} hab e=>by
  unfold ltE at hab
  rw [e,less_irrefl] at hab
  cases hab
theorem set_apart (e:Entry) {l:List Entry} (h:l.Pairwise ltE):Apart (e :: l.filter (notAt e.f0)) :=
  List.pairwise_cons.2 ⟨fun z hz=>(notAt_iff.1 (List.mem_filter.1 hz).2).symm,asc_apart (h.filter _)⟩
/-- Set is: the row without the path, the entry beside it, sorted. -/
theorem setR_sort (e:Entry) {l:List Entry} (h:l.Pairwise ltE):setR e l=sortE (e :: l.filter (notAt e.f0)):=by
  refine asc_unique _ _ (setR_asc e l h) (sortE_asc _ (set_apart e h)) (fun x => ?_)
  rw [setR_mem,(sortE_perm _).mem_iff,List.mem_cons,List.mem_filter,notAt_iff]
theorem treeOk_pair {l:List Entry} (h:treeOk l=true):l.Pairwise ltE:=by
  rw [List.pairwise_iff_getElem]
  intro i j hi hj hij
  exact treeOk_lt h hij hj
theorem pathOk_size {s:ByteArray} {g:Bool} (h:pathOk s g=true):s.size≤126:=by
  rcases Nat.lt_or_ge 126 s.size with h'|h'
  · rw [pathOk_long s g h'] at h
    cases h
  · exact h'
theorem treeOk_path {l:List Entry} (h:treeOk l=true) {i:Nat} (hi:i<l.length):pathOk l[i].f0 false=true:=by
  have:=treeOk_rows h i hi
  unfold rowOk entryOk at this
  rw [rdE_eq hi] at this
  by_cases hp:pathOk l[i].f0 false=true
  · exact hp
  · rw [if_neg hp] at this
    cases this
theorem treeOk_size {l:List Entry} (h:treeOk l=true) {i:Nat} (hi:i<l.length):l[i].f0.size≤126:=pathOk_size (treeOk_path h hi)
theorem treeOk_size' {l:List Entry} (h:treeOk l=true):∀ e ∈ l,e.f0.size≤126:=by
  intro e he
  obtain ⟨i,hi,rfl⟩:=List.getElem_of_mem he
  exact treeOk_size h hi
theorem treeOk_len100 {l:List Entry} (h:treeOk l=true):l.length≤100:=by
  unfold treeOk at h
  split at h
  · cases h
  · omega

end Go.Proofs.YtknagppkeodggaaDoor.Pure


namespace Go.Proofs.YtknagppkeodggaaDoor.Pure
open Go Go.RowKit Go.Proofs.YtknagppkeodggaaDoor.P Go.Proofs.YtknagppkeodggaaDoorW.PrintWords Go.Proofs.YtknagppkeodggaaDoorW.PrintLast
set_option linter.unusedVariables false
set_option linter.unusedSimpArgs false

def overs (p:ByteArray) (x:Entry):Bool:=begins x.f0 p||begins p x.f0
def putL (l:List Entry) (e:Entry) (rest:List Entry):List Entry×Int:=if rest.any (overs e.f0)=true then ([],3) else if ((setR e l).length:Int)>100 then ([],4) else (setR e l,0)
def put (l:List Entry) (e:Entry):List Entry×Int:=if treeOk l=true then (if entryOk e=true then putL l e l else ([],2)) else ([],1)
theorem putL_pos {l:List Entry} {e y:Entry} {r:List Entry} (h:overs e.f0 y=true):putL l e (y :: r)=([],3):=by
  unfold putL
  rw [List.any_cons,h]
  rfl
theorem putL_neg {l:List Entry} {e y:Entry} {r:List Entry} (h:overs e.f0 y=false):putL l e (y :: r)=putL l e r:=by
  unfold putL
  rw [List.any_cons,h,Bool.false_or]
theorem spec_Put0 (l : List Entry) (hl : l.length ≤ 100) (p t : ByteArray) (u : Bool) : ∀ (d i : Nat), i + d = l.length → Ev (fun k => spec_Put.l0 k (i : Int) l p t u) (putL l ⟨p, t, u⟩ (l.drop i))
  | 0, i, hd => by
    rw [List.drop_of_length_le (by omega)]
    refine Ev.step (fun k=>spec_Put.l0.eq_2 ..) (Ev.neg (by omega) (Ev.bind (spec_set_ev l (by omega) p t u) ?_))
    exact Ev.both (fun _=>Ev.now _) (fun _=>Ev.now _)
  | d + 1, i, hd => by
    have hi:i<l.length:=by omega
    refine Ev.step (fun k=>spec_Put.l0.eq_2 ..) (Ev.pos (by omega) (Ev.pos (by omega) ?_))
    rw [rdE_eq hi,w64 (n:=(i:Int)+1) (by omega) (by omega),show (i:Int)+1=((i+1:Nat):Int) from by omega,List.drop_eq_getElem_cons hi,spec_begins_eq,spec_begins_eq]
    refine Ev.sb ?_
    by_cases h1:begins l[i].f0 p=true
    · rw [putL_pos (by simp [overs, h1])]
      exact Ev.pos h1 (Ev.now _)
    · refine Ev.neg h1 (Ev.sb ?_)
      by_cases h2:begins p l[i].f0=true
      · rw [putL_pos (by simp [overs, h2])]
        exact Ev.pos h2 (Ev.now _)
      · rw [putL_neg (by simp [overs, h1, h2])]
        exact Ev.neg h2 (spec_Put0 l hl p t u d (i+1) (by omega))
theorem spec_Put_ev (l : List Entry) (p t : ByteArray) (u : Bool) : Ev (fun k => spec_Put.f k l p t u) (put l ⟨p, t, u⟩) := by
  unfold spec_Put.f put entryOk
  refine Ev.bind (spec_ValidTree_ev l) ?_
  by_cases h:treeOk l=true
  · rw [if_pos h]
    refine Ev.pos h (Ev.bind (spec_path_ev p) ?_)
    by_cases h2:pathOk p false=true
    · rw [if_pos h2]
      refine Ev.pos h2 (Ev.step (fun k=>spec_Put.j0.eq_2 ..) ?_)
      by_cases h3:(t.size:Int)≤1500
      · rw [if_pos (by simpa using h3)]
        exact Ev.neg (by simpa using h3) (spec_Put0 l (treeOk_len100 h) p t u l.length 0 (by omega))
      · rw [if_neg (by simpa using h3)]
        exact Ev.pos (by simpa using h3) (Ev.now _)
    · rw [if_neg h2, if_neg (by simp)]
      exact Ev.neg h2 (Ev.step (fun k=>spec_Put.j0.eq_2 ..) (Ev.pos rfl (Ev.now _)))
  · rw [if_neg h]
    exact Ev.neg h (Ev.now _)
theorem put_len (l : List Entry) (e : Entry) : (put l e).1.length ≤ 100 := by
  unfold put putL
  split
  · split
    · split
      · simp
      · split
        · simp
        · show (setR e l).length ≤ 100
          omega
    · simp
  · simp

end Go.Proofs.YtknagppkeodggaaDoor.Pure


namespace Go.Proofs.YtknagppkeodggaaDoor.Pure
open Go Go.RowKit Go.Proofs.YtknagppkeodggaaDoor.P Go.Proofs.YtknagppkeodggaaDoorW.PrintWords Go.Proofs.YtknagppkeodggaaDoorW.PrintLast
set_option linter.unusedVariables false
set_option linter.unusedSimpArgs false

def wild:List UInt8→List UInt8→Bool
  | [],p=>p.isEmpty
  | g :: gs,[]=>if g=42 then wild gs [] else false
  | g :: gs,b :: p=>if g=42 then wild gs (b :: p)||wild (g :: gs) p else (g==63||g==b)&&wild gs p
termination_by g p=>g.length+p.length

theorem tl_extract (s:ByteArray) (b:UInt8) (r:List UInt8) (h:s.data.toList=b :: r):(s.extract 1 s.size).data.toList=r:=by
  rw [extract_data,←size_toList,List.take_length,h]
  rfl
theorem bt_head (s:ByteArray) (b:UInt8) (r:List UInt8) (h:s.data.toList=b :: r):bt s 0=(b.toNat:Int):=by
  have:=bt_getD s 0
  rw [h] at this
  simpa using this
theorem toList_eq (s:ByteArray):s.toList=s.data.toList:=ByteArray.toList_eq s
theorem u8_eq (a b:UInt8):((a.toNat:Int)=(b.toNat:Int)) ↔ a=b:=⟨fun h=>UInt8.toNat_inj.1 (by omega),fun h=>by rw [h]⟩
theorem spec_bytes_ev : ∀ (n : Nat) (g p : ByteArray), g.size + p.size ≤ n → Ev (fun k => spec_l4Bytes.f k g p) (wild g.data.toList p.data.toList) := by
  intro n
  induction n with
  | zero =>
    intro g p hn
    have hg:g.data.toList = []:=List.length_eq_zero_iff.1 (by rw [size_toList];omega)
    have hp:p.data.toList = []:=List.length_eq_zero_iff.1 (by rw [size_toList];omega)
    refine Ev.step (fun k=>spec_l4Bytes.f.eq_2 ..) (Ev.pos (by rw [toList_eq,hg]) ?_)
    rw [hg,wild,toList_eq,hp]
    exact Ev.now _
  | succ n ih =>
    intro g p hn
    have gz:=size_toList g
    have pz:=size_toList p
    cases hg:g.data.toList with
    | nil =>
      refine Ev.step (fun k=>spec_l4Bytes.f.eq_2 ..) (Ev.pos (by rw [toList_eq,hg]) ?_)
      rw [wild,toList_eq]
      cases p.data.toList <;> exact Ev.now _
    | cons a gs =>
      rw [hg,List.length_cons] at gz
      have hge:=tl_extract g a gs hg
      have hgz:(g.extract 1 g.size).size+1=g.size:=by rw [←size_toList,hge];omega
      refine Ev.step (fun k=>spec_l4Bytes.f.eq_2 ..) (Ev.neg (by rw [toList_eq,hg];simp) (Ev.pos (by omega) ?_))
      rw [bt_head g a gs hg]
      have r42:((a.toNat:Int)=42) ↔ a=42:=u8_eq a 42
      have r63:((a.toNat:Int)=63) ↔ a=63:=u8_eq a 63
      cases hp:p.data.toList with
      | nil =>
        rw [wild]
        by_cases h:a=42
        · rw [if_pos h]
          have:=ih (g.extract 1 g.size) p (by omega)
          rw [hge,hp] at this
          refine Ev.pos (r42.2 h) (Ev.pos (by omega) (Ev.bind this ?_))
          by_cases hw:wild gs []=true
          · rw [hw]
            exact Ev.pos rfl (Ev.now _)
          · rw [Bool.eq_false_iff.2 hw]
            exact Ev.neg (by simp) (Ev.pos (by rw [toList_eq,hp]) (Ev.now _))
        · rw [if_neg h]
          exact Ev.neg (fun e=>h (r42.1 e)) (Ev.pos (by rw [toList_eq,hp]) (Ev.now _))
      | cons b ps =>
        rw [hp,List.length_cons] at pz
        have hpe:=tl_extract p b ps hp
        have hpz:(p.extract 1 p.size).size+1=p.size:=by rw [←size_toList,hpe];omega
        have hpn:¬ p.toList=([]:List UInt8):=by rw [toList_eq,hp];simp
        rw [wild]
        by_cases h:a=42
        · rw [if_pos h]
          have i1:=ih (g.extract 1 g.size) p (by omega)
          rw [hge,hp] at i1
          have i2:=ih g (p.extract 1 p.size) (by omega)
          rw [hg,hpe] at i2
          refine Ev.pos (r42.2 h) (Ev.pos (by omega) (Ev.bind i1 ?_))
          by_cases hw:wild gs (b :: ps)=true
          · rw [hw, Bool.true_or]
            exact Ev.pos rfl (Ev.now _)
          · rw [Bool.eq_false_iff.2 hw, Bool.false_or]
            exact Ev.neg (by simp) (Ev.neg hpn (Ev.pos (by omega) (Ev.bind i2 (Ev.now _))))
        · rw [if_neg h]
          have i3:=ih (g.extract 1 g.size) (p.extract 1 p.size) (by omega)
          rw [hge,hpe] at i3
          refine Ev.neg (fun e=>h (r42.1 e)) (Ev.neg hpn ?_)
          by_cases hq:a=63
          · rw [show ((a == 63) || (a == b)) = true from by simp [hq], Bool.true_and]
            exact Ev.pos (r63.2 hq) (Ev.pos (by omega) (Ev.pos (by omega) (Ev.bind i3 (Ev.now _))))
          · refine Ev.neg (fun e => hq (r63.1 e)) (Ev.pos (by omega) ?_)
            rw [bt_head p b ps hp]
            by_cases hb:a=b
            · rw [show ((a == 63) || (a == b)) = true from by simp [hb], Bool.true_and]
              exact Ev.pos ((u8_eq a b).2 hb) (Ev.pos (by omega) (Ev.pos (by omega) (Ev.bind i3 (Ev.now _))))
            · rw [show ((a == 63) || (a == b)) = false from by simp [hq, hb], Bool.false_and]
              exact Ev.neg (fun e=>hb ((u8_eq a b).1 e)) (Ev.now _)

theorem wild_star (gs:List UInt8):∀ p,wild (42 :: gs) p=true ↔ ∃ j,j≤p.length∧wild gs (p.drop j)=true
  | [] => by
    rw [wild,if_pos rfl]
    exact ⟨fun h=>⟨0,by simp,h⟩,fun ⟨j,_,h⟩=>by simpa using h⟩
  | b :: p => by
    rw [wild,if_pos rfl,Bool.or_eq_true,wild_star gs p]
    constructor
    · rintro (h | ⟨j, hj, h⟩)
      · exact ⟨0,by simp,h⟩
      · exact ⟨j+1,by simp;omega,by simpa using h⟩
    · rintro ⟨j, hj, h⟩
      cases j with
      | zero=>exact .inl (by simpa using h)
      | succ j=>exact .inr ⟨j,by simp at hj;omega,by simpa using h⟩
def rdb (r:List Bool) (j:Nat):Bool:=r.getD j false
theorem rdOf_b (r:List Bool) (j:Nat):rdOf false r (j:Int)=rdb r j:=by
  unfold rdOf rdb
  rw [Int.toNat_natCast]
/-- Some place of the row is on from where the rest fits. -/
def Open (row:List Bool) (gs p:List UInt8):Prop:=∃ j,j≤p.length∧rdb row j=true∧wild gs (p.drop j)=true
theorem rdb_set (r:List Bool) (i j:Nat) (x:Bool) (h:i<r.length):rdb (r.set i x) j=if j=i then x else rdb r j:=by
  unfold rdb
  rw [List.getD_eq_getElem?_getD,List.getD_eq_getElem?_getD]
  by_cases e:j=i
  · subst e
    rw [List.getElem?_set_self h,if_pos rfl]
    rfl
  · rw [List.getElem?_set_ne (fun e'=>e e'.symm),if_neg e]
theorem rdb_replicate (n j:Nat):rdb (List.replicate n false) j=false:=by
  unfold rdb
  rw [List.getD_eq_getElem?_getD,List.getElem?_replicate]
  split <;> rfl
/-- A star: on behind whatever was on. -/
theorem open_star (row next:List Bool) (gs p:List UInt8) (h:∀ j,j≤p.length→(rdb next j=true ↔ ∃ i,i≤j∧rdb row i=true)):Open next gs p ↔ Open row (42 :: gs) p:=by
  constructor
  · rintro ⟨j, hj, h1, h2⟩
    obtain ⟨i,hi,hr⟩:=(h j hj).1 h1
    refine ⟨i,by omega,hr,(wild_star gs _).2 ⟨j - i,by rw [List.length_drop];omega,?_⟩⟩
    rw [List.drop_drop,show i+(j - i)=j from by omega]
    exact h2
  · rintro ⟨i, hi, hr, h2⟩
    obtain ⟨d,hd,h3⟩:=(wild_star gs _).1 h2
    rw [List.length_drop] at hd
    rw [List.drop_drop] at h3
    exact ⟨i+d,by omega,(h _ (by omega)).2 ⟨i,by omega,hr⟩,h3⟩
/-- Another byte: on one place on. -/
theorem open_byte (row next:List Bool) (g:UInt8) (hg:g≠42) (gs p:List UInt8) (h0:rdb next 0=false) (h:∀ j,(hj:j<p.length)→rdb next (j+1)=(rdb row j&&(g==63||g==p[j]))):Open next gs p ↔ Open row (g :: gs) p:=by
  constructor
  · rintro ⟨j, hj, h1, h2⟩
    cases j with
    | zero=>rw [h0] at h1;cases h1
    | succ j =>
      rw [h j (by omega),Bool.and_eq_true] at h1
      refine ⟨j,by omega,h1.1,?_⟩
      rw [List.drop_eq_getElem_cons (by omega),wild,if_neg hg,h1.2,Bool.true_and]
      exact h2
  · rintro ⟨j, hj, h1, h2⟩
    rcases Nat.lt_or_ge j p.length with hlt|hge
    · rw [List.drop_eq_getElem_cons hlt, wild, if_neg hg, Bool.and_eq_true] at h2
      exact ⟨j+1,by omega,by rw [h j hlt,h1,h2.1];rfl,h2.2⟩
    · rw [List.drop_of_length_le hge, wild, if_neg hg] at h2
      cases h2
theorem open_end (row:List Bool) (p:List UInt8):Open row [] p ↔ rdb row p.length=true:=by
  constructor
  · rintro ⟨j, hj, h1, h2⟩
    rw [wild,List.isEmpty_iff,List.drop_eq_nil_iff] at h2
    rwa [show p.length=j from by omega]
  · intro h
    exact ⟨p.length,Nat.le_refl _,h,by rw [List.drop_length,wild];rfl⟩
theorem open_start (row:List Bool) (g p:List UInt8) (h:∀ j,rdb row j=true ↔ j=0):Open row g p ↔ wild g p=true:=by
  constructor
  · rintro ⟨j, hj, h1, h2⟩
    obtain rfl:=(h j).1 h1
    simpa using h2
  · intro hw
    exact ⟨0,by simp,(h 0).2 rfl,by simpa using hw⟩

theorem impl_PM1 (g p : ByteArray) (hp : p.size ≤ 1000) (i : Nat) (row : List Bool) (hr : row.length = p.size + 1) (r : Bool) : ∀ (d j : Nat) (next : List Bool) (on : Bool), j + d = p.size + 1 → next.length = p.size + 1 → (on = true ↔ ∃ i, i < j ∧ rdb row i = true) → (∀ m, m < j → (rdb next m = true ↔ ∃ i, i ≤ m ∧ rdb row i = true)) →
    (∀ next',next'.length=p.size+1→(∀ m,m≤p.size→(rdb next' m=true ↔ ∃ i,i≤m∧rdb row i=true))→Ev (fun k=>impl_partMatch.l0 k g p next' (wrap64 ((i:Int)+1))) r) →
    Ev (fun k=>impl_partMatch.l1 k g p row (i:Int) next on (row.length:Int) (j:Int)) r
  | 0,j,next,on,hd,hn,hon,ha,hk=>Ev.step (fun k=>impl_partMatch.l1.eq_2 ..) (Ev.neg (by omega) (hk next hn (fun m hm=>ha m (by omega))))
  | d + 1, j, next, on, hd, hn, hon, ha, hk => by
    have hw:wrap64 ((j:Int)+1)=((j+1:Nat):Int):=by rw [w64 (by omega) (by omega)];omega
    have next_ok:∀ b:Bool,(b=true ↔ ∃ i,i<j+1∧rdb row i=true)→Ev (fun k=>impl_partMatch.l1 k g p row (i:Int) (next.set j b) b (row.length:Int) ((j+1:Nat):Int)) r:=by
      intro b hb
      refine impl_PM1 g p hp i row hr r d (j+1) _ b (by omega) (by rw [List.length_set];exact hn) hb (fun m hm => ?_) hk
      rw [rdb_set next j m b (by omega)]
      split
      · rename_i e
        subst e
        rw [hb]
        exact ⟨fun ⟨i,hi,h⟩=>⟨i,by omega,h⟩,fun ⟨i,hi,h⟩=>⟨i,by omega,h⟩⟩
      · exact ha m (by omega)
    refine Ev.step (fun k=>impl_partMatch.l1.eq_2 ..) (Ev.pos (by omega) ?_)
    rw [hw,Int.toNat_natCast]
    by_cases h:on=true
    · refine Ev.pos h (Ev.pos (by omega) (Ev.pos (by omega) (next_ok true ⟨fun _ => ?_, fun _ => rfl⟩)))
      obtain ⟨i,hi,hx⟩:=hon.1 h
      exact ⟨i,by omega,hx⟩
    · refine Ev.neg h (Ev.pos (by omega) (Ev.pos (by omega) (Ev.pos (by omega) ?_)))
      rw [rdOf_b]
      refine next_ok _ ⟨fun hx=>⟨j,by omega,hx⟩,fun ⟨i,hi,hx⟩ => ?_⟩
      rcases Nat.lt_or_ge i j with hij|hij
      · exact absurd (hon.2 ⟨i,hij,hx⟩) h
      · obtain rfl : i = j := by omega
        exact hx
theorem impl_PM2 (g p : ByteArray) (hp : p.size ≤ 1000) (i : Nat) (c : UInt8) (hi : i < g.size) (hc : Aside0 (bt g (i : Int) = (c.toNat : Int))) (row : List Bool) (hr : row.length = p.size + 1) (r : Bool) : ∀ (d j : Nat) (next : List Bool), j + d = p.size → next.length = p.size + 1 → rdb next 0 = false → (∀ m, (h : m < p.data.toList.length) → m < j → rdb next (m + 1) = (rdb row m && (c == 63 || c == p.data.toList[m]))) →
    (∀ next',next'.length=p.size+1→rdb next' 0=false→(∀ m,(h:m<p.data.toList.length)→rdb next' (m+1)=(rdb row m&&(c==63||c==p.data.toList[m])))→Ev (fun k=>impl_partMatch.l0 k g p next' (wrap64 ((i:Int)+1))) r) →
    Ev (fun k=>impl_partMatch.l2 k g p row (i:Int) next (j:Int)) r
  | 0,j,next,hd,hn,h0,ha,hk=>Ev.step (fun k=>impl_partMatch.l2.eq_2 ..) (Ev.neg (by omega) (hk next hn h0 (fun m hm=>ha m hm (by rw [size_toList] at hm;omega))))
  | d + 1, j, next, hd, hn, h0, ha, hk => by
    have hj:j<p.data.toList.length:=by rw [size_toList];omega
    have hw:wrap64 ((j:Int)+1)=((j+1:Nat):Int):=by rw [w64 (by omega) (by omega)];omega
    have hb:bt p (j:Int)=(p.data.toList[j].toNat:Int):=by
      rw [bt_getD,List.getD_eq_getElem?_getD,List.getElem?_eq_getElem hj]
      rfl
    have next_ok:∀ b:Bool,b=(rdb row j&&(c==63||c==p.data.toList[j]))→Ev (fun k=>impl_partMatch.l2 k g p row (i:Int) (next.set (j+1) b) ((j+1:Nat):Int)) r:=by
      intro b hb'
      refine impl_PM2 g p hp i c hi hc row hr r d (j+1) _ (by omega) (by rw [List.length_set];exact hn) ?_ (fun m hm hmj => ?_) hk
      · rw [rdb_set next (j + 1) 0 b (by omega), if_neg (by omega)]
        exact h0
      · rw [rdb_set next (j + 1) (m + 1) b (by omega)]
        split
        · rename_i e
          obtain rfl:m=j:=by omega
          exact hb'
        · exact ha m hm (by omega)
    refine Ev.step (fun k=>impl_partMatch.l2.eq_2 ..) (Ev.pos (by omega) (Ev.pos (by omega) (Ev.pos (by omega) ?_)))
    rw [rdOf_b,hw,Int.toNat_natCast,hc.out,hb]
    by_cases hx:rdb row j=true
    · refine Ev.pos hx (Ev.pos (by omega) (Ev.pos (by omega) ?_))
      by_cases hq:c=63
      · exact Ev.pos ((u8_eq c 63).2 hq) (Ev.pos (by omega) (Ev.pos (by omega) (next_ok true (by simp [hx,hq]))))
      · refine Ev.neg (fun e => hq ((u8_eq c 63).1 e)) (Ev.pos (by omega) (Ev.pos (by omega) (next_ok _ ?_)))
        rw [hx,Bool.true_and,show (c==63)=false from by simp [hq],Bool.false_or]
        by_cases he:c=p.data.toList[j]
        · rw [← he]
          simp
        · rw [show (c == p.data.toList[j]) = false from beq_eq_false_iff_ne.2 he]
          exact beq_eq_false_iff_ne.2 (fun e=>he ((u8_eq _ _).1 e))
    · exact Ev.neg hx (Ev.pos (by omega) (Ev.pos (by omega) (next_ok false (by simp [Bool.eq_false_iff.2 hx]))))
theorem impl_PM0 (g p:ByteArray) (hg:g.size≤1000) (hp:p.size≤1000):∀ (d i:Nat) (row:List Bool),i+d=g.size→row.length=p.size+1 → ∀ r:Bool,(r=true ↔ Open row (g.data.toList.drop i) p.data.toList)→Ev (fun k=>impl_partMatch.l0 k g p row (i:Int)) r
  | 0, i, row, hd, hr, r, ho => by
    refine Ev.step (fun k=>impl_partMatch.l0.eq_2 ..) (Ev.neg (by omega) (Ev.pos (by omega) (Ev.pos (by omega) ?_)))
    rw [List.drop_of_length_le (by rw [size_toList];omega),open_end,size_toList] at ho
    rw [rdOf_b,show rdb row p.size=r from Bool.eq_iff_iff.2 ho.symm]
    exact Ev.now _
  | d + 1, i, row, hd, hr, r, ho => by
    have hi:i<g.data.toList.length:=by rw [size_toList];omega
    have hb:bt g (i:Int)=(g.data.toList[i].toNat:Int):=by
      rw [bt_getD,List.getD_eq_getElem?_getD,List.getElem?_eq_getElem hi]
      rfl
    have hw:wrap64 ((i:Int)+1)=((i+1:Nat):Int):=by rw [w64 (by omega) (by omega)];omega
    rw [List.drop_eq_getElem_cons hi] at ho
    refine Ev.step (fun k=>impl_partMatch.l0.eq_2 ..) (Ev.pos (by omega) ?_)
    rw [w64 (n:=(p.size:Int)+1) (by omega) (by omega),show ((p.size:Int)+1).toNat=p.size+1 from by omega]
    refine Ev.pos (by omega) (Ev.pos (by omega) (Ev.sb (Ev.pos (by omega) ?_)))
    by_cases h:g.data.toList[i]=42
    · refine Ev.pos (by rw [hb, h]; rfl) (impl_PM1 g p hp i row hr r (p.size + 1) 0 _ false (by omega) (by simp) (by simp) (fun m hm => by omega) (fun next' hn' hx => ?_))
      rw [hw]
      refine impl_PM0 g p hg hp d (i+1) next' (by omega) hn' r ?_
      rw [ho,h]
      exact (open_star row next' _ _ (fun j hj=>hx j (by rw [size_toList] at hj;exact hj))).symm
    · refine Ev.neg (fun e => h ((u8_eq _ 42).1 (by rw [← hb]; exact e))) (impl_PM2 g p hp i g.data.toList[i] (by omega) ⟨hb⟩ row hr r p.size 0 _ (by omega) (by simp) (rdb_replicate _ _) (fun m hm hm0 => by omega) (fun next' hn' h0' hx => ?_))
      rw [hw]
      refine impl_PM0 g p hg hp d (i+1) next' (by omega) hn' r ?_
      rw [ho]
      exact (open_byte row next' _ h _ _ h0' (fun j hj=>hx j hj)).symm
theorem impl_bytes_ev (g p:ByteArray) (hg:g.size≤1000) (hp:p.size≤1000):Ev (fun k=>impl_partMatch.f k g p) (wild g.data.toList p.data.toList):=by
  unfold impl_partMatch.f
  rw [w64 (n:=(p.size:Int)+1) (by omega) (by omega),show ((p.size:Int)+1).toNat=p.size+1 from by omega]
  refine Ev.pos (by omega) (Ev.pos (by omega) (Ev.sb (Ev.pos (by simp) ?_)))
  refine impl_PM0 g p hg hp g.size 0 _ (by omega) (by simp) _ ?_
  rw [List.drop_zero]
  refine (open_start _ _ _ (fun j => ?_)).symm
  rw [show (0:Int).toNat=0 from rfl,rdb_set (List.replicate (p.size+1) false) 0 j true (by simp),rdb_replicate]
  by_cases h:j=0
  · simp [h]
  · simp [h]

end Go.Proofs.YtknagppkeodggaaDoor.Pure


namespace Go.Proofs.YtknagppkeodggaaDoor.Pure
open Go Go.RowKit Go.Proofs.YtknagppkeodggaaDoor.P Go.Proofs.YtknagppkeodggaaDoorW.PrintWords Go.Proofs.YtknagppkeodggaaDoorW.PrintLast
set_option linter.unusedVariables false
set_option linter.unusedSimpArgs false

def globM:List ByteArray→List ByteArray→Bool
  | [],p=>p.isEmpty
  | g :: gs,[]=>if g.toList=([42,42]:List UInt8) then globM gs [] else false
  | g :: gs,b :: p=>if g.toList=([42,42]:List UInt8) then globM gs (b :: p)||globM (g :: gs) p else wild g.data.toList b.data.toList&&globM gs p
termination_by g p=>g.length+p.length
def Shorts (l:List ByteArray):Prop:=∀ s ∈ l,s.size≤1000
theorem Shorts.tl {a:ByteArray} {l:List ByteArray} (h:Shorts (a :: l)):Shorts l:=fun s hs=>h s (List.mem_cons_of_mem _ hs)
theorem Shorts.drop {l:List ByteArray} (h:Shorts l) (n:Nat):Shorts (l.drop n):=fun s hs=>h s (List.mem_of_mem_drop hs)
theorem spec_match_ev : ∀ (n : Nat) (g p : List ByteArray), g.length + p.length ≤ n → Ev (fun k => spec_l4Match.f k g p) (globM g p) := by
  intro n
  induction n with
  | zero =>
    intro g p hn
    obtain rfl:g = []:=List.length_eq_zero_iff.1 (by omega)
    obtain rfl:p = []:=List.length_eq_zero_iff.1 (by omega)
    refine Ev.step (fun k=>spec_l4Match.f.eq_2 ..) (Ev.pos rfl ?_)
    rw [globM]
    exact Ev.now _
  | succ n ih =>
    intro g p hn
    cases g with
    | nil =>
      refine Ev.step (fun k=>spec_l4Match.f.eq_2 ..) (Ev.pos rfl ?_)
      rw [globM]
      cases p with
      | nil=>exact Ev.now _
      | cons b p =>
        rw [show (((b :: p).length:Int)==0)=(b :: p).isEmpty from by simp;omega]
        exact Ev.now _
    | cons a gs =>
      rw [List.length_cons] at hn
      have h0:rdOf ByteArray.empty (a :: gs) 0=a:=rfl
      have hl:(1:Int)≤((a :: gs).length:Int):=by simp;omega
      refine Ev.step (fun k=>spec_l4Match.f.eq_2 ..) (Ev.neg (by omega) (Ev.pos (by omega) ?_))
      rw [h0,show (a :: gs).drop 1=gs from rfl]
      cases p with
      | nil =>
        rw [globM]
        by_cases h:a.toList=([42,42]:List UInt8)
        · rw [if_pos h]
          refine Ev.pos h (Ev.pos hl (Ev.bind (ih gs [] (by simp at hn ⊢; omega)) ?_))
          by_cases hw:globM gs []=true
          · rw [hw]
            exact Ev.pos rfl (Ev.now _)
          · rw [Bool.eq_false_iff.2 hw]
            exact Ev.neg (by simp) (Ev.neg (by simp) (Ev.now _))
        · rw [if_neg h]
          exact Ev.neg h (Ev.neg (by simp) (Ev.now _))
      | cons b ps =>
        rw [List.length_cons] at hn
        have hlp:((b :: ps).length:Int)>0:=by rw [List.length_cons];omega
        rw [globM,show (b :: ps).drop 1=ps from rfl,show rdOf ByteArray.empty (b :: ps) 0=b from rfl]
        by_cases h:a.toList=([42,42]:List UInt8)
        · rw [if_pos h]
          refine Ev.pos h (Ev.pos hl (Ev.bind (ih gs (b :: ps) (by simp;omega)) ?_))
          by_cases hw:globM gs (b :: ps)=true
          · rw [hw, Bool.true_or]
            exact Ev.pos rfl (Ev.now _)
          · rw [Bool.eq_false_iff.2 hw, Bool.false_or]
            exact Ev.neg (by simp) (Ev.pos hlp (Ev.pos (by omega) (Ev.bind (ih (a :: gs) ps (by simp;omega)) (Ev.now _))))
        · rw [if_neg h]
          refine Ev.neg h (Ev.pos hlp (Ev.pos (by omega) (Ev.bind (spec_bytes_ev _ a b (Nat.le_refl _)) ?_)))
          by_cases hw:wild a.data.toList b.data.toList=true
          · rw [hw, Bool.true_and]
            exact Ev.pos rfl (Ev.pos hl (Ev.pos (by omega) (Ev.bind (ih gs ps (by omega)) (Ev.now _))))
          · rw [Bool.eq_false_iff.2 hw, Bool.false_and]
            exact Ev.neg (by simp) (Ev.now _)
/-- Two stars: from some place on. -/
theorem globM_star {a:ByteArray} (h:a.toList=([42,42]:List UInt8)) (gs:List ByteArray):∀ p,globM (a :: gs) p=((List.range (p.length+1)).any fun j=>globM gs (p.drop j))
  | [] => by
    rw [globM,if_pos h]
    simp
  | b :: p => by
    rw [globM,if_pos h,globM_star h gs p,List.length_cons,List.range_succ_eq_map (n:=p.length+1),List.any_cons,List.any_map]
    rfl
theorem impl_match_ev : ∀ (n : Nat) (g p : List ByteArray), g.length ≤ n → p.length ≤ 1000 → Shorts g → Shorts p → Ev (fun k => impl_matchParts.f k g p) (globM g p) := by
  intro n
  induction n with
  | zero =>
    intro g p hn hp _ _
    obtain rfl:g = []:=List.length_eq_zero_iff.1 (by omega)
    refine Ev.step (fun k=>impl_matchParts.f.eq_2 ..) (Ev.pos rfl ?_)
    rw [globM]
    cases p with
    | nil=>exact Ev.now _
    | cons b p =>
      rw [show (((b :: p).length:Int)==0)=(b :: p).isEmpty from by simp;omega]
      exact Ev.now _
  | succ n ih =>
    intro g p hn hp hg hps
    cases g with
    | nil =>
      refine Ev.step (fun k=>impl_matchParts.f.eq_2 ..) (Ev.pos rfl ?_)
      rw [globM]
      cases p with
      | nil=>exact Ev.now _
      | cons b p =>
        rw [show (((b :: p).length:Int)==0)=(b :: p).isEmpty from by simp;omega]
        exact Ev.now _
    | cons a gs =>
      rw [List.length_cons] at hn
      have h0:rdOf ByteArray.empty (a :: gs) 0=a:=rfl
      have hl:(1:Int)≤((a :: gs).length:Int):=by simp;omega
      refine Ev.step (fun k=>impl_matchParts.f.eq_2 ..) (Ev.neg (by omega) (Ev.pos (by omega) ?_))
      rw [h0]
      by_cases h:a.toList=([42,42]:List UInt8)
      · refine Ev.pos h ?_
        rw [globM_star h]
        have loop:∀ (d i:Nat),i+d=p.length+1→Ev (fun k=>impl_matchParts.l0 k (a :: gs) p (i:Int)) ((List.range' i d).any fun j=>globM gs (p.drop j)):=by
          intro d
          induction d with
          | zero =>
            intro i hd
            exact Ev.step (fun k=>impl_matchParts.l0.eq_2 ..) (Ev.neg (by omega) (Ev.now _))
          | succ d ihd =>
            intro i hd
            refine Ev.step (fun k=>impl_matchParts.l0.eq_2 ..) (Ev.pos (by omega) (Ev.pos hl (Ev.pos (by omega) ?_)))
            rw [show (a :: gs).drop 1=gs from rfl,Int.toNat_natCast,w64 (by omega) (by omega),show (i:Int)+1=((i+1:Nat):Int) from by omega,List.range'_succ,List.any_cons]
            refine Ev.bind (ih gs (p.drop i) (by omega) (by rw [List.length_drop];omega) hg.tl (hps.drop i)) ?_
            by_cases hw:globM gs (p.drop i)=true
            · rw [hw, Bool.true_or]
              exact Ev.pos rfl (Ev.now _)
            · rw [Bool.eq_false_iff.2 hw, Bool.false_or]
              exact Ev.neg (by simp) (ihd (i+1) (by omega))
        have:=loop (p.length+1) 0 (by omega)
        rwa [←List.range_eq_range'] at this
      · refine Ev.neg h ?_
        cases p with
        | nil =>
          rw [globM,if_neg h]
          exact Ev.neg (by simp) (Ev.now _)
        | cons b ps =>
          rw [List.length_cons] at hp
          have hlp:((b :: ps).length:Int)>0:=by rw [List.length_cons];omega
          rw [globM,if_neg h,show (b :: ps).drop 1=ps from rfl,show (a :: gs).drop 1=gs from rfl,show rdOf ByteArray.empty (b :: ps) 0=b from rfl]
          refine Ev.pos hlp (Ev.pos (by omega) (Ev.bind (impl_bytes_ev a b (hg a (List.mem_cons_self ..)) (hps b (List.mem_cons_self ..))) ?_))
          by_cases hw:wild a.data.toList b.data.toList=true
          · rw [hw, Bool.true_and]
            exact Ev.pos rfl (Ev.pos hl (Ev.pos (by omega) (Ev.bind (ih gs ps (by omega) (by omega) hg.tl hps.tl) (Ev.now _))))
          · rw [Bool.eq_false_iff.2 hw, Bool.false_and]
            exact Ev.neg (by simp) (Ev.now _)

theorem pathOk_shorts {s:ByteArray} {g:Bool} (h:pathOk s g=true):Shorts (piecesB 47 s)∧(piecesB 47 s).length≤6:=by
  unfold pathOk at h
  split at h
  · cases h
  · rename_i h6
    refine ⟨fun p hp => ?_,by omega⟩
    have:=List.all_eq_true.1 h p hp
    unfold partOk at this
    by_cases hz:1≤(p.size:Int)∧(p.size:Int)≤20
    · omega
    · rw [if_neg hz] at this
      cases this
def matchOk (g p:ByteArray):Bool:=if pathOk g true=true then (if pathOk p false=true then globM (piecesB 47 g) (piecesB 47 p) else false) else false
theorem spec_Match_ev (g p:ByteArray) (hg:g.size≤1048576) (hp:p.size≤1048576):Ev (fun k=>spec_Match.f k g p) (matchOk g p):=by
  unfold spec_Match.f spec_ValidGlob.f spec_ValidPath.f matchOk
  refine Ev.bind (Ev.bind (spec_ok_ev g true) (Ev.now _)) ?_
  by_cases h1:pathOk g true=true
  · rw [if_pos h1]
    refine Ev.pos h1 (Ev.bind (Ev.bind (spec_ok_ev p false) (Ev.now _)) ?_)
    by_cases h2:pathOk p false=true
    · rw [if_pos h2]
      exact Ev.pos h2 (Ev.bind (spec_parts_ev g hg) (Ev.bind (spec_parts_ev p hp) (Ev.bind (spec_match_ev _ _ _ (Nat.le_refl _)) (Ev.now _))))
    · rw [if_neg h2]
      exact Ev.neg h2 (Ev.now _)
  · rw [if_neg h1]
    exact Ev.neg h1 (Ev.now _)
theorem impl_Match_ev (g p:ByteArray) (hg:g.size≤1048576) (hp:p.size≤1048576):Ev (fun k=>impl_Match.f k g p) (matchOk g p):=by
  unfold impl_Match.f impl_ValidGlob.f impl_ValidPath.f matchOk
  refine Ev.bind (Ev.bind (impl_parts_ev g hg true) (Ev.now _)) ?_
  by_cases h1:pathOk g true=true
  · rw [if_pos h1]
    refine Ev.pos h1 (Ev.bind (Ev.bind (impl_parts_ev p hp false) (Ev.now _)) ?_)
    by_cases h2:pathOk p false=true
    · rw [if_pos h2, split_eq 47 g (by omega), split_eq 47 p (by omega)]
      obtain ⟨a1,a2⟩:=pathOk_shorts h1
      obtain ⟨b1,b2⟩:=pathOk_shorts h2
      exact Ev.pos h2 (Ev.sb (Ev.sb (Ev.bind (impl_match_ev _ _ _ (Nat.le_refl _) (by omega) a1 b1) (Ev.now _))))
    · rw [if_neg h2]
      exact Ev.neg h2 (Ev.now _)
  · rw [if_neg h1]
    exact Ev.neg h1 (Ev.now _)

end Go.Proofs.YtknagppkeodggaaDoor.Pure


namespace Go.Proofs.YtknagppkeodggaaDoor.Pure
open Go Go.RowKit Go.Proofs.YtknagppkeodggaaDoor.P Go.Proofs.YtknagppkeodggaaDoorW.PrintWords Go.Proofs.YtknagppkeodggaaDoorW.PrintLast
set_option linter.unusedVariables false
set_option linter.unusedSimpArgs false

def anyMatch (gs:List ByteArray) (p:ByteArray):Bool:=gs.any fun g=>matchOk g p
def pickL (gs:List ByteArray) (l:List Entry):List Entry:=l.filter fun e=>anyMatch gs e.f0
def pick (l:List Entry) (gs:List ByteArray):List Entry:=if treeOk l=true then (if (gs.length:Int)>20 then [] else pickL gs l) else []
theorem treeOk_lenP {l:List Entry} (h:treeOk l=true):l.length≤100:=by
  unfold treeOk at h
  split at h
  · cases h
  · omega
theorem pickL_pos {gs:List ByteArray} {l:List Entry} {i:Nat} (hi:i<l.length) (h:anyMatch gs l[i].f0=true) (acc:List Entry):acc++pickL gs (l.drop i)=(acc ++ [l[i]])++pickL gs (l.drop (i+1)):=by
  unfold pickL
  rw [List.drop_eq_getElem_cons hi,List.filter_cons_of_pos (by exact h),List.append_assoc]
  rfl
theorem pickL_neg {gs:List ByteArray} {l:List Entry} {i:Nat} (hi:i<l.length) (h:¬ anyMatch gs l[i].f0=true):pickL gs (l.drop i)=pickL gs (l.drop (i+1)):=by
  unfold pickL
  rw [List.drop_eq_getElem_cons hi,List.filter_cons_of_neg (by exact h)]
theorem rdG_eq {l:List ByteArray} {i:Nat} (h:i<l.length):rdOf ByteArray.empty l (i:Int)=l[i]:=by
  unfold rdOf
  rw [Int.toNat_natCast,List.getD_eq_getElem?_getD,List.getElem?_eq_getElem h]
  rfl
theorem spec_P1 (l:List Entry) (hl:l.length≤100) (hz:∀ e ∈ l,e.f0.size≤1048576) (gs:List ByteArray) (hg:gs.length≤20) (hgs:∀ g ∈ gs,g.size≤1048576) (i:Nat) (hi:i<l.length) (acc:List Entry) (ha:acc.length≤i) (R:List Entry)
    (h1:anyMatch gs l[i].f0=true→Ev (fun k=>spec_Pick.l0 k gs ((i:Int)+1) l (acc ++ [l[i]])) R) (h2:anyMatch gs l[i].f0=false→Ev (fun k=>spec_Pick.l0 k gs ((i:Int)+1) l acc) R):∀ (d j:Nat) (b:Bool),j+d=gs.length→(b||(gs.drop j).any fun g=>matchOk g l[i].f0)=anyMatch gs l[i].f0 →
    Ev (fun k=>spec_Pick.l1 k gs (i:Int) b (j:Int) l acc) R
  | 0, j, b, hd, hb => by
    rw [List.drop_of_length_le (by omega),List.any_nil,Bool.or_false] at hb
    refine Ev.step (fun k=>spec_Pick.l1.eq_2 ..) (Ev.neg (by omega) ?_)
    rw [rdE_eq hi,w64 (n:=(i:Int)+1) (by omega) (by omega)]
    cases b with
    | true=>exact Ev.pos rfl (Ev.pos (by omega) (Ev.pos (by omega) (Ev.pos (by omega) (h1 hb.symm))))
    | false=>exact Ev.neg (by simp) (h2 hb.symm)
  | d + 1, j, b, hd, hb => by
    have hj:j<gs.length:=by omega
    refine Ev.step (fun k=>spec_Pick.l1.eq_2 ..) (Ev.pos (by omega) ?_)
    rw [rdE_eq hi,rdG_eq hj,w64 (n:=(j:Int)+1) (by omega) (by omega)]
    have hd1:(b||matchOk gs[j] l[i].f0||(gs.drop (j+1)).any fun g=>matchOk g l[i].f0)=anyMatch gs l[i].f0:=by
      rw [←hb,List.drop_eq_getElem_cons hj,List.any_cons,Bool.or_assoc]
    cases b with
    | true =>
      refine Ev.pos rfl ?_
      refine spec_P1 l hl hz gs hg hgs i hi acc ha R h1 h2 d (j+1) true (by omega) ?_
      rw [←hd1]
      simp
    | false =>
      refine Ev.neg (by simp) (Ev.pos (by omega) (Ev.pos (by omega) (Ev.pos (by omega) (Ev.bind (spec_Match_ev gs[j] l[i].f0 (hgs _ (List.getElem_mem hj)) (hz _ (List.getElem_mem hi))) ?_))))
      refine spec_P1 l hl hz gs hg hgs i hi acc ha R h1 h2 d (j+1) _ (by omega) ?_
      rw [←hd1]
      simp
theorem spec_P0 (l:List Entry) (hl:l.length≤100) (hz:∀ e ∈ l,e.f0.size≤1048576) (gs:List ByteArray) (hg:gs.length≤20) (hgs:∀ g ∈ gs,g.size≤1048576):∀ (d i:Nat) (acc:List Entry),i+d=l.length→acc.length≤i→Ev (fun k=>spec_Pick.l0 k gs (i:Int) l acc) (acc++pickL gs (l.drop i))
  | 0, i, acc, hd, ha => by
    rw [List.drop_of_length_le (by omega)]
    refine Ev.step (fun k=>spec_Pick.l0.eq_2 ..) (Ev.neg (by omega) ?_)
    show Ev _ (acc ++ [])
    rw [List.append_nil]
    exact Ev.now _
  | d + 1, i, acc, hd, ha => by
    have hi:i<l.length:=by omega
    refine Ev.step (fun k=>spec_Pick.l0.eq_2 ..) (Ev.pos (by omega) ?_)
    refine spec_P1 l hl hz gs hg hgs i hi acc ha _ (fun h => ?_) (fun h => ?_) gs.length 0 false (by omega) (by rw [List.drop_zero];rfl)
    · rw [pickL_pos hi h acc]
      exact spec_P0 l hl hz gs hg hgs d (i+1) (acc ++ [l[i]]) (by omega) (by rw [List.length_append,List.length_singleton];omega)
    · rw [pickL_neg hi (by rw [h]; simp)]
      exact spec_P0 l hl hz gs hg hgs d (i+1) acc (by omega) (by omega)
theorem spec_Pick_ev (l:List Entry) (hz:∀ e ∈ l,e.f0.size≤1048576) (gs:List ByteArray) (hgs:∀ g ∈ gs,g.size≤1048576):Ev (fun k=>spec_Pick.f k l gs) (pick l gs):=by
  unfold spec_Pick.f pick
  refine Ev.bind (spec_ValidTree_ev l) ?_
  by_cases h:treeOk l=true
  · rw [if_pos h]
    refine Ev.pos h ?_
    by_cases hg:(gs.length:Int)>20
    · rw [if_pos hg, decide_eq_true hg]
      exact Ev.step (fun k=>spec_Pick.j0.eq_2 ..) (Ev.pos rfl (Ev.now _))
    · rw [if_neg hg, decide_eq_false hg]
      exact Ev.step (fun k=>spec_Pick.j0.eq_2 ..) (Ev.neg (by simp) (spec_P0 l (treeOk_lenP h) hz gs (by omega) hgs l.length 0 [] (by omega) (by simp)))
  · rw [if_neg h]
    exact Ev.neg h (Ev.step (fun k=>spec_Pick.j0.eq_2 ..) (Ev.pos rfl (Ev.now _)))
theorem contains_ev (p t:ByteArray) (u:Bool) (hp:p.size≤1048576) (gs:List ByteArray) (hlg:gs.length≤20) (hgs:∀ g ∈ gs,g.size≤1048576):Ev (fun k=>slices_ContainsFunc_string_string.f k gs p t u) (anyMatch gs p):=by
  unfold slices_ContainsFunc_string_string.f
  refine Ev.pos (by omega) ?_
  clear hlg
  induction gs with
  | nil=>exact Ev.now _
  | cons g r ih =>
    have ih2:=ih (fun x hx=>hgs x (List.mem_cons_of_mem _ hx))
    show Ev (fun k=>(impl_Match.f k g p).bind fun t=>if t=true then some true else slices_ContainsFunc_string_string.l0 k p r) _
    refine Ev.bind (impl_Match_ev g p (hgs _ List.mem_cons_self) hp) ?_
    unfold anyMatch
    rw [List.any_cons]
    by_cases h:matchOk g p=true
    · rw [h, Bool.true_or]
      exact Ev.pos rfl (Ev.now _)
    · rw [Bool.eq_false_iff.2 h, Bool.false_or]
      exact Ev.neg (by simp) ih2
theorem impl_P0 (l:List Entry) (hl:l.length≤100) (hz:∀ e ∈ l,e.f0.size≤1048576) (gs:List ByteArray) (hg:gs.length≤20) (hgs:∀ g ∈ gs,g.size≤1048576):∀ (d i:Nat) (acc:List Entry),i+d=l.length→acc.length≤i→Ev (fun k=>impl_Pick.l0 k gs l (l.length:Int) (i:Int) acc) (acc++pickL gs (l.drop i))
  | 0, i, acc, hd, ha => by
    rw [List.drop_of_length_le (by omega)]
    refine Ev.step (fun k=>impl_Pick.l0.eq_2 ..) (Ev.neg (by omega) ?_)
    show Ev _ (acc ++ [])
    rw [List.append_nil]
    exact Ev.now _
  | d + 1, i, acc, hd, ha => by
    have hi:i<l.length:=by omega
    refine Ev.step (fun k=>impl_Pick.l0.eq_2 ..) (Ev.pos (by omega) (Ev.pos (by omega) (Ev.pos (by omega) ?_)))
    rw [rdE_eq hi,w64 (n:=(i:Int)+1) (by omega) (by omega)]
    refine Ev.bind (contains_ev l[i].f0 l[i].f1 l[i].f2 (hz _ (List.getElem_mem hi)) gs hg hgs) ?_
    by_cases h:anyMatch gs l[i].f0=true
    · rw [pickL_pos hi h acc]
      exact Ev.pos h (Ev.pos (by omega) (impl_P0 l hl hz gs hg hgs d (i+1) (acc ++ [l[i]]) (by omega) (by rw [List.length_append,List.length_singleton];omega)))
    · rw [pickL_neg hi h]
      exact Ev.neg h (impl_P0 l hl hz gs hg hgs d (i+1) acc (by omega) (by omega))
theorem impl_Pick_ev (l:List Entry) (hz:∀ e ∈ l,e.f0.size≤1048576) (gs:List ByteArray) (hgs:∀ g ∈ gs,g.size≤1048576):Ev (fun k=>impl_Pick.f k l gs) (pick l gs):=by
  unfold impl_Pick.f pick
  refine Ev.bind (impl_ValidTree_ev l hz) ?_
  by_cases h:treeOk l=true
  · rw [if_pos h]
    refine Ev.pos h ?_
    by_cases hg:(gs.length:Int)>20
    · rw [if_pos hg, decide_eq_true hg]
      exact Ev.step (fun k=>impl_Pick.j0.eq_2 ..) (Ev.pos rfl (Ev.now _))
    · rw [if_neg hg, decide_eq_false hg]
      exact Ev.step (fun k=>impl_Pick.j0.eq_2 ..) (Ev.neg (by simp) (impl_P0 l (treeOk_lenP h) hz gs (by omega) hgs l.length 0 [] (by omega) (by simp)))
  · rw [if_neg h]
    exact Ev.neg h (Ev.step (fun k=>impl_Pick.j0.eq_2 ..) (Ev.pos rfl (Ev.now _)))
theorem pick_len (l:List Entry) (gs:List ByteArray):(pick l gs).length≤100:=by
  unfold pick
  split
  · rename_i h
    split
    · simp
    · have h1 := treeOk_lenP h
      have h2:=List.length_filter_le (fun e:Entry=>anyMatch gs e.f0) l
      unfold pickL
      omega
  · simp

end Go.Proofs.YtknagppkeodggaaDoor.Pure


namespace Go.Proofs.YtknagppkeodggaaDoor.Pure
open Go Go.RowKit Go.Proofs.YtknagppkeodggaaDoor.P Go.Proofs.YtknagppkeodggaaDoorW.PrintWords Go.Proofs.YtknagppkeodggaaDoorW.PrintLast
set_option linter.unusedVariables false
set_option linter.unusedSimpArgs false

def plainL (l:List UInt8):Prop:=∀ b ∈ l,b≠42∧b≠63
theorem wild_plain:∀ (g p:List UInt8),plainL g→(wild g p=true ↔ g=p)
  | [], p, _ => by
    rw [wild]
    cases p <;> simp
  | g :: gs, [], h => by
    rw [wild,if_neg (h g List.mem_cons_self).1]
    simp
  | g :: gs, b :: p, h => by
    have hg:=h g List.mem_cons_self
    have ih:=wild_plain gs p (fun b hb=>h b (List.mem_cons_of_mem _ hb))
    rw [wild,if_neg hg.1,Bool.and_eq_true,ih,Bool.or_eq_true,beq_iff_eq,beq_iff_eq,List.cons.injEq]
    constructor
    · rintro ⟨h1 | h1, h2⟩
      · exact absurd h1 hg.2
      · exact ⟨h1,h2⟩
    · rintro ⟨h1, h2⟩
      exact ⟨.inr h1,h2⟩
theorem plain_star {g:ByteArray} (h:plainL g.data.toList):g.toList≠([42,42]:List UInt8):=by
  intro e
  rw [Lib.toList_data] at e
  exact (h 42 (by rw [e];simp)).1 rfl
theorem glob_plain:∀ (g p:List ByteArray),(∀ x ∈ g,plainL x.data.toList)→(globM g p=true ↔ g=p)
  | [], p, _ => by
    rw [globM]
    cases p <;> simp
  | g :: gs, [], h => by
    rw [globM,if_neg (plain_star (h g List.mem_cons_self))]
    simp
  | g :: gs, b :: p, h => by
    have hg:=h g List.mem_cons_self
    have ih:=glob_plain gs p (fun b hb=>h b (List.mem_cons_of_mem _ hb))
    rw [globM,if_neg (plain_star hg),Bool.and_eq_true,ih,wild_plain _ _ hg,List.cons.injEq]
    constructor
    · rintro ⟨h1, h2⟩
      exact ⟨ba_ext h1,h2⟩
    · rintro ⟨h1, h2⟩
      exact ⟨by rw [h1],h2⟩
theorem char_plain {b:UInt8} (h:charOk false (b.toNat:Int)=true):(b≠42∧b≠63)∧charOk true (b.toNat:Int)=true:=by
  unfold charOk at h ⊢
  by_cases a1:((b.toNat:Int))<33
  · rw [if_pos a1] at h
    cases h
  rw [if_neg a1] at h ⊢
  by_cases a2:((b.toNat:Int))>126
  · rw [if_pos a2] at h
    cases h
  rw [if_neg a2] at h ⊢
  by_cases a3:((b.toNat:Int))=47
  · rw [if_pos a3] at h
    cases h
  rw [if_neg a3] at h ⊢
  by_cases a4:((b.toNat:Int))=34
  · rw [if_pos a4] at h
    cases h
  rw [if_neg a4] at h ⊢
  rw [if_neg (by simp)] at h
  refine ⟨⟨fun e => ?_,fun e => ?_⟩,rfl⟩
  · subst e
    exact absurd h (by decide)
  · subst e
    exact absurd h (by decide)
theorem part_plain {s:ByteArray} (h:partOk s false=true):plainL s.data.toList∧partOk s true=true:=by
  unfold partOk at h ⊢
  by_cases a1:1≤(s.size:Int)∧(s.size:Int)≤20
  · rw [if_pos a1] at h ⊢
    by_cases a2:s.toList=([46]:List UInt8)
    · rw [if_pos a2] at h
      cases h
    rw [if_neg a2] at h ⊢
    by_cases a3:s.toList=([46,46]:List UInt8)
    · rw [if_pos a3] at h
      cases h
    rw [if_neg a3] at h ⊢
    unfold allOk at h ⊢
    rw [List.drop_zero] at h ⊢
    rw [List.all_eq_true] at h
    exact ⟨fun b hb=>(char_plain (h b hb)).1,List.all_eq_true.2 fun b hb=>(char_plain (h b hb)).2⟩
  · rw [if_neg a1] at h
    cases h
theorem path_plain {s:ByteArray} (h:pathOk s false=true):(∀ x ∈ piecesB 47 s,plainL x.data.toList)∧pathOk s true=true:=by
  unfold pathOk at h ⊢
  by_cases a1:(piecesB 47 s).length>6
  · rw [if_pos a1] at h
    cases h
  rw [if_neg a1] at h ⊢
  rw [List.all_eq_true] at h
  exact ⟨fun b hb=>(part_plain (h b hb)).1,List.all_eq_true.2 fun b hb=>(part_plain (h b hb)).2⟩
theorem match_self {p:ByteArray} (h:pathOk p false=true):matchOk p p=true:=by
  unfold matchOk
  obtain ⟨h1,h2⟩:=path_plain h
  rw [if_pos h2,if_pos h]
  exact (glob_plain _ _ h1).2 rfl
theorem pieces_more (p q:ByteArray) (h:q.size≠p.size):piecesB 47 p≠piecesB 47 q:=by
  intro e
  unfold piecesB at e
  have e2:=congrArg (List.map fun x:ByteArray=>x.data.toList) e
  rw [List.map_map,List.map_map] at e2
  have i:((fun x:ByteArray=>x.data.toList)∘ofBytes)=id:=by
    funext x
    exact ofBytes_data x
  rw [i,List.map_id,List.map_id] at e2
  have t1:=cuts_total 47 p.data.toList []
  have t2:=cuts_total 47 q.data.toList []
  rw [e2] at t1
  rw [size_toList] at t1 t2
  omega
theorem match_other {p q:ByteArray} (hq:q.size≠p.size) (h:pathOk p false=true):matchOk p q=false:=by
  unfold matchOk
  obtain ⟨h1,h2⟩:=path_plain h
  rw [if_pos h2]
  split
  · exact Bool.eq_false_iff.2 fun e=>pieces_more p q hq ((glob_plain _ _ h1).1 e)
  · rfl
theorem pieces_front (a:List UInt8) (ha:(47:UInt8) ∉ a) (s:ByteArray):piecesB 47 (ofBytes (a ++ [47])++s)=ofBytes a :: piecesB 47 s:=by
  unfold piecesB
  rw [data_append,ofBytes_data,List.append_assoc,List.singleton_append,cuts_hit 47 _ a [] ha,List.nil_append,List.map_cons]
theorem match_stars {g p:ByteArray} (h:matchOk g p=true) (h1:pathOk ((⟨#[122,47]⟩:ByteArray)++p) false=true) (h2:pathOk ((⟨#[42,42,47]⟩:ByteArray)++g) true=true):matchOk ((⟨#[42,42,47]⟩:ByteArray)++g) ((⟨#[122,47]⟩:ByteArray)++p)=true:=by
  unfold matchOk at h ⊢
  rw [if_pos h2,if_pos h1]
  split at h
  · split at h
    · rw [show (⟨#[42, 42, 47]⟩ : ByteArray) = ofBytes ([42, 42] ++ [47]) from rfl, show (⟨#[122, 47]⟩ : ByteArray) = ofBytes ([122] ++ [47]) from rfl, pieces_front [42, 42] (by decide), pieces_front [122] (by decide), globM_star (by rw [Lib.toList_data]; rfl), List.any_eq_true]
      exact ⟨1,by simp,h⟩
    · cases h
  · cases h
theorem pick_in {l:List Entry} {gs:List ByteArray} {e:Entry} (h:e ∈ pick l gs):anyMatch gs e.f0=true:=by
  unfold pick at h
  split at h
  · split at h
    · cases h
    · unfold pickL at h
      exact (List.mem_filter.1 h).2
  · cases h
theorem pick_mem {l:List Entry} {gs:List ByteArray} {e:Entry} (h:e ∈ pick l gs):e ∈ l:=by
  unfold pick at h
  split at h
  · split at h
    · cases h
    · unfold pickL at h
      exact (List.mem_filter.1 h).1
  · cases h

end Go.Proofs.YtknagppkeodggaaDoor.Pure

