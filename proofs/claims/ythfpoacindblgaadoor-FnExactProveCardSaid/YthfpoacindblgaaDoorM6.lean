/- Several texts of this claim in one file: YthfpoacindblgaaDoorCuts, YthfpoacindblgaaDoorPaths, YthfpoacindblgaaDoorTrees, YthfpoacindblgaaDoorTreeRows, YthfpoacindblgaaDoorTreeAsc, YthfpoacindblgaaDoorSum, YthfpoacindblgaaDoorDirs, YthfpoacindblgaaDoorAlong, YthfpoacindblgaaDoorFind, YthfpoacindblgaaDoorEntries, YthfpoacindblgaaDoorNames, YthfpoacindblgaaDoorDirsS, YthfpoacindblgaaDoorMarkText, YthfpoacindblgaaDoorEntryMarksA, YthfpoacindblgaaDoorMarks, YthfpoacindblgaaDoorTextsEq. -/
import Derived.Test.YthfpoacindblgaaDoorM4
import Derived.Test.YthfpoacindblgaaDoorM3
import Derived.Lib.SplitLaws
import Derived.Lib.HexFns
import Derived.Test.YthfpoacindblgaaDoorM5
namespace Go.Proofs.YthfpoacindblgaaDoor.Pure
open Go Go.RowKit Go.Proofs.YthfpoacindblgaaDoor.P Go.Proofs.YthfpoacindblgaaDoorW.PrintWords Go.Proofs.YthfpoacindblgaaDoorW.PrintLast
set_option linter.unusedVariables false
set_option linter.unusedSimpArgs false

/-- The bytes, cut at each c; cur: what has been read of the piece. -/
def cuts (c:UInt8):List UInt8→List UInt8→List (List UInt8)
  | [],cur => [cur]
  | b :: r,cur=>if b=c then cur :: cuts c r [] else cuts c r (cur ++ [b])
def ofBytes (l:List UInt8):ByteArray:=⟨l.toArray⟩
theorem ofBytes_data (l:List UInt8):(ofBytes l).data.toList=l:=by simp [ofBytes]
theorem ofBytes_of (s:ByteArray):ofBytes s.data.toList=s:=ba_ext (ofBytes_data _)
theorem ofBytes_size (l:List UInt8):(ofBytes l).size=l.length:=by rw [←size_toList,ofBytes_data]
def piecesB (c:UInt8) (s:ByteArray):List ByteArray:=(cuts c s.data.toList []).map ofBytes

theorem cuts_free (c:UInt8):∀ (a cur:List UInt8),c ∉ a→cuts c a cur = [cur++a]
  | [],cur,_=>by rw [cuts,List.append_nil]
  | b :: r, cur, h => by
    rw [cuts,if_neg (fun e:b=c=>h (by rw [e];exact List.mem_cons_self ..)),cuts_free c r _ (fun hm=>h (List.mem_cons_of_mem _ hm)),List.append_assoc]
    rfl
theorem cuts_hit (c:UInt8) (r:List UInt8):∀ (a cur:List UInt8),c ∉ a→cuts c (a++c :: r) cur=(cur++a) :: cuts c r []
  | [],cur,_=>by rw [List.nil_append,cuts,if_pos rfl,List.append_nil]
  | b :: a, cur, h => by
    rw [List.cons_append,cuts,if_neg (fun e:b=c=>h (by rw [e];exact List.mem_cons_self ..)),cuts_hit c r a _ (fun hm=>h (List.mem_cons_of_mem _ hm)),List.append_assoc]
    rfl
theorem cuts_length (c:UInt8):∀ (l cur:List UInt8),(cuts c l cur).length≤l.length+1
  | [],cur=>by simp [cuts]
  | b :: r, cur => by
    rw [cuts]
    split
    · have := cuts_length c r []
      simp only [List.length_cons]
      omega
    · have := cuts_length c r (cur ++ [b])
      simp only [List.length_cons]
      omega
/-- All bytes are in the pieces, but for the cuts. -/
theorem cuts_total (c:UInt8):∀ (l cur:List UInt8),((cuts c l cur).map List.length).sum+(cuts c l cur).length=cur.length+l.length+1
  | [],cur=>by simp [cuts]
  | b :: r, cur => by
    rw [cuts]
    split
    · have := cuts_total c r []
      simp only [List.map_cons,List.sum_cons,List.length_cons,List.length_nil] at this ⊢
      omega
    · have := cuts_total c r (cur ++ [b])
      simp only [List.length_append,List.length_cons,List.length_nil] at this ⊢
      omega
theorem piecesB_length (c:UInt8) (s:ByteArray):(piecesB c s).length≤s.size+1:=by
  unfold piecesB
  rw [List.length_map,←size_toList]
  exact cuts_length c _ _
theorem piecesB_size (c : UInt8) (s : ByteArray) : ∀ p ∈ piecesB c s, p.size ≤ s.size := by
  intro p hp
  unfold piecesB at hp
  obtain ⟨l,hl,rfl⟩:=List.mem_map.1 hp
  have ht:=cuts_total c s.data.toList []
  have h1 : l.length ≤ ((cuts c s.data.toList []).map List.length).sum := by
    have:∀ (L:List (List UInt8)),l ∈ L→l.length≤(L.map List.length).sum:=by
      intro L
      induction L with
      | nil=>intro h;cases h
      | cons a L ih =>
        intro h
        rw [List.map_cons,List.sum_cons]
        rcases List.mem_cons.1 h with rfl|h
        · omega
        · have := ih h
          omega
    exact this _ hl
  have h2:1≤(cuts c s.data.toList []).length:=by
    cases hc:cuts c s.data.toList [] with
    | nil=>rw [hc] at hl;cases hl
    | cons a r=>simp
  rw [ofBytes_size,←size_toList]
  simp only [List.length_nil] at ht
  omega

theorem index_one (c : UInt8) : ∀ l : List UInt8, (Go.Lib.index l [c] = -1 ∧ c ∉ l) ∨ ∃ a r, l = a ++ c :: r ∧ c ∉ a ∧ Go.Lib.index l [c] = (a.length : Int)
  | [] => .inl ⟨by simp [Go.Lib.index],by simp⟩
  | b :: l => by
    by_cases h:b=c
    · subst h
      exact .inr ⟨[],l,rfl,by simp,by rw [Go.Lib.index];simp [List.isPrefixOf]⟩
    · have hp : ([c] : List UInt8).isPrefixOf (b :: l) = false := by simp [List.isPrefixOf, Ne.symm h]
      have hix:Go.Lib.index (b :: l) [c]=if Go.Lib.index l [c] == -1 then -1 else Go.Lib.index l [c]+1:=by rw [Go.Lib.index,hp];simp
      rcases index_one c l with ⟨h1,h2⟩|⟨a,r,h1,h2,h3⟩
      · refine .inl ⟨by rw [hix, h1]; rfl, fun hm => ?_⟩
        rcases List.mem_cons.1 hm with e|hm
        · exact h e.symm
        · exact h2 hm
      · refine .inr ⟨b :: a, r, by rw [h1]; rfl, fun hm => ?_, ?_⟩
        · rcases List.mem_cons.1 hm with e | hm
          · exact h e.symm
          · exact h2 hm
        · rw [hix, h3, if_neg (by simp)]
          simp
theorem splitB_one (c : UInt8) (save : Nat) (hs : save ≤ 1) : ∀ (n : Nat) (s : ByteArray), s.size ≤ n →
    (Go.Lib.splitB ⟨#[c]⟩ save (Go.Lib.countB s ⟨#[c]⟩) s).map (·.data.toList)=(if save=0 then cuts c s.data.toList [] else Go.Lib.splitK [c] save (s.data.toList.count c) s.data.toList):=by
  intro n s hn
  rw [Go.Lib.splitB_data]
  have hc:Go.Lib.countB s ⟨#[c]⟩=s.data.toList.count c:=Go.Lib.count_one c _
  rw [hc]
  by_cases h0:save=0
  · subst h0
    rw [if_pos rfl]
    clear hn hc hs
    generalize s.data.toList=l
    suffices H:∀ (m:Nat) (l:List UInt8),l.length≤m→Go.Lib.splitK [c] 0 (l.count c) l=cuts c l [] from H l.length l (Nat.le_refl _)
    intro m
    induction m with
    | zero =>
      intro l hl
      obtain rfl:l = []:=List.length_eq_zero_iff.1 (by omega)
      rfl
    | succ m ih =>
      intro l hl
      rcases index_one c l with ⟨h1,h2⟩|⟨a,r,h1,h2,h3⟩
      · rw [cuts_free c l [] h2, List.count_eq_zero_of_not_mem h2]
        rfl
      · have hcount : l.count c = r.count c + 1 := by
          rw [h1,List.count_append,List.count_cons_self,List.count_eq_zero_of_not_mem h2]
          omega
        rw [hcount,Go.Lib.splitK,if_neg (by rw [h3];simp),h3,h1,cuts_hit c r a [] h2]
        have e1:(a++c :: r).take ((a.length:Int).toNat+0)=a:=by simp
        have e2:(a++c :: r).drop ((a.length:Int).toNat + [c].length)=r:=by simp
        rw [e1,e2,ih r (by rw [h1,List.length_append,List.length_cons] at hl;omega)]
        rfl
  · rw [if_neg h0]
theorem split_eq (c:UInt8) (s:ByteArray) (hs:s.size<4294967281):strings_Split.f s ⟨#[c]⟩=some (piecesB c s):=by
  unfold strings_Split.f
  rw [if_pos hs,if_pos (by simp [ByteArray.size])]
  congr 1
  have:=splitB_one c 0 (by omega) s.size s (Nat.le_refl _)
  rw [if_pos rfl] at this
  unfold piecesB
  rw [←this,List.map_map]
  have:(ofBytes∘fun x:ByteArray=>x.data.toList)=id:=by
    funext x
    exact ofBytes_of x
  rw [this,List.map_id]

theorem extract_data (s:ByteArray) (a b:Nat):(s.extract a b).data.toList=(s.data.toList.take b).drop a:=by
  rw [ByteArray.data_extract,Array.toList_extract]
  simp [List.extract,List.drop_take]
theorem spec_Pa0 (s : ByteArray) (hs : s.size ≤ 1048576) : ∀ (d i f : Nat) (acc : List ByteArray), i + d = s.size → f ≤ i → acc.length ≤ i →
    Ev (fun k=>spec_l4Parts.l0 k s acc (f:Int) (i:Int)) (acc++(cuts 47 (s.data.toList.drop i) ((s.data.toList.take i).drop f)).map ofBytes)
  | 0, i, f, acc, hd, hf, ha => by
    refine Ev.step (fun k=>spec_l4Parts.l0.eq_2 ..) (Ev.neg (by omega) (Ev.pos (by omega) (Ev.pos (by omega) (Ev.pos (by omega) ?_))))
    rw [List.drop_of_length_le (by rw [size_toList];omega),cuts]
    have:s.extract (f:Int).toNat s.size=ofBytes ((s.data.toList.take i).drop f):=by
      apply ba_ext
      rw [ofBytes_data,extract_data,Int.toNat_natCast,show s.size=i from by omega]
    rw [this]
    exact Ev.now _
  | d + 1, i, f, acc, hd, hf, ha => by
    have hi:i<s.data.toList.length:=by rw [size_toList];omega
    have hb:bt s (i:Int)=(s.data.toList[i].toNat:Int):=by
      rw [bt_getD,List.getD_eq_getElem?_getD,List.getElem?_eq_getElem hi]
      rfl
    have hw:wrap64 ((i:Int)+1)=((i+1:Nat):Int):=by rw [w64 (by omega) (by omega)];omega
    have ht:(s.data.toList.take (i+1)).drop f=(s.data.toList.take i).drop f ++ [s.data.toList[i]]:=by
      rw [List.take_succ_eq_append_getElem hi,List.drop_append_of_le_length (by rw [List.length_take];omega)]
    refine Ev.step (fun k=>spec_l4Parts.l0.eq_2 ..) (Ev.pos (by omega) (Ev.pos (by omega) ?_))
    rw [List.drop_eq_getElem_cons hi,cuts,hb,hw]
    by_cases h:s.data.toList[i]=47
    · rw [if_pos h]
      refine Ev.pos (by rw [h];rfl) (Ev.pos (by omega) (Ev.pos (by omega) (Ev.pos (by omega) (Ev.pos (by omega) ?_))))
      have:=spec_Pa0 s hs d (i+1) (i+1) (acc ++ [s.extract (f:Int).toNat (i:Int).toNat]) (by omega) (by omega) (by simp;omega)
      have e:s.extract (f:Int).toNat (i:Int).toNat=ofBytes ((s.data.toList.take i).drop f):=by
        apply ba_ext
        rw [ofBytes_data,extract_data,Int.toNat_natCast,Int.toNat_natCast]
      rw [e] at this ⊢
      rw [List.drop_of_length_le (l:=s.data.toList.take (i+1)) (by rw [List.length_take];omega)] at this
      simpa using this
    · rw [if_neg h]
      refine Ev.neg (fun e=>h (UInt8.toNat_inj.1 (by have:(47:UInt8).toNat=47:=rfl;omega))) ?_
      have:=spec_Pa0 s hs d (i+1) f acc (by omega) (by omega) (by omega)
      rwa [ht] at this
theorem spec_parts_ev (s:ByteArray) (hs:s.size≤1048576):Ev (fun k=>spec_l4Parts.f k s) (piecesB 47 s):=by
  unfold spec_l4Parts.f piecesB
  have:=spec_Pa0 s hs s.size 0 0 [] (by omega) (by omega) (by simp)
  simpa using this

end Go.Proofs.YthfpoacindblgaaDoor.Pure


namespace Go.Proofs.YthfpoacindblgaaDoor.Pure
open Go Go.RowKit Go.Proofs.YthfpoacindblgaaDoor.P Go.Proofs.YthfpoacindblgaaDoorW.PrintWords Go.Proofs.YthfpoacindblgaaDoorW.PrintLast
set_option linter.unusedVariables false
set_option linter.unusedSimpArgs false

theorem in_eq4 (a b c:Int):spec_l1In.f a b c=some (decide (b≤a∧a≤c)):=by
  unfold spec_l1In.f
  by_cases h:a ≥ b
  · rw [if_pos h]
    congr 1
    simp [h]
  · rw [if_neg h]
    congr 1
    simp [h]
theorem impl_in_eq4 (a b c:Int):impl_in.f a b c=some (decide (b≤a∧a≤c)):=by
  unfold impl_in.f
  by_cases h:a ≥ b
  · rw [if_pos h]
    congr 1
    simp [h]
  · rw [if_neg h]
    congr 1
    simp [h]
def charOk (g:Bool) (b:Int):Bool:=if b<33 then false else if b>126 then false else if b=47 then false else if b=34 then false else if g=true then true else if b=42 then false else if b=63 then false else true
def allOk (g:Bool) (s:ByteArray) (i:Nat):Bool:=(s.data.toList.drop i).all fun b=>charOk g (b.toNat:Int)
def partOk (s:ByteArray) (g:Bool):Bool :=
  if 1≤(s.size:Int)∧(s.size:Int)≤20 then (if s.toList=([46]:List UInt8) then false else if s.toList=([46,46]:List UInt8) then false else allOk g s 0) else false
theorem allOk_step (g:Bool) (s:ByteArray) (i:Nat) (h:i<s.size):allOk g s i=(charOk g (bt s (i:Int))&&allOk g s (i+1)):=by
  have hi:i<s.data.toList.length:=by rw [size_toList];exact h
  unfold allOk
  rw [List.drop_eq_getElem_cons hi,List.all_cons,bt_getD,List.getD_eq_getElem?_getD,List.getElem?_eq_getElem hi]
  rfl
theorem allOk_end (g:Bool) (s:ByteArray) (i:Nat) (h:s.size≤i):allOk g s i=true:=by
  unfold allOk
  rw [List.drop_of_length_le (by rw [size_toList];exact h)]
  rfl
theorem spec_PO0 (s:ByteArray) (g:Bool) (hs:s.size≤20):∀ (d i:Nat),i+d=s.size→Ev (fun k=>spec_l4PartOk.l0 k s g (i:Int)) (allOk g s i)
  | 0, i, hd => by
    rw [allOk_end g s i (by omega)]
    exact Ev.step (fun k=>spec_l4PartOk.l0.eq_2 ..) (Ev.neg (by omega) (Ev.now _))
  | d + 1, i, hd => by
    have hw:wrap64 ((i:Int)+1)=((i+1:Nat):Int):=by rw [w64 (by omega) (by omega)];omega
    have ih:=spec_PO0 s g hs d (i+1) (by omega)
    refine Ev.step (fun k=>spec_l4PartOk.l0.eq_2 ..) (Ev.pos (by omega) (Ev.pos (by omega) ?_))
    rw [allOk_step g s i (by omega),hw]
    unfold charOk
    generalize bt s (i:Int)=b
    by_cases h1:b<33
    · rw [if_pos h1];exact Ev.pos h1 (Ev.now _)
    by_cases h2:b>126
    · rw [if_neg h1,if_pos h2];exact Ev.neg h1 (Ev.pos h2 (Ev.now _))
    by_cases h3:b=47
    · rw [if_neg h1,if_neg h2,if_pos h3];exact Ev.neg h1 (Ev.neg h2 (Ev.pos h3 (Ev.now _)))
    by_cases h4:b=34
    · rw [if_neg h1,if_neg h2,if_neg h3,if_pos h4];exact Ev.neg h1 (Ev.neg h2 (Ev.neg h3 (Ev.pos h4 (Ev.now _))))
    rw [if_neg h1,if_neg h2,if_neg h3,if_neg h4]
    refine Ev.neg h1 (Ev.neg h2 (Ev.neg h3 (Ev.neg h4 ?_)))
    by_cases hg:g=true
    · rw [if_pos hg,Bool.true_and];exact Ev.pos hg ih
    rw [if_neg hg]
    refine Ev.neg hg ?_
    by_cases h5:b=42
    · rw [if_pos h5];exact Ev.pos h5 (Ev.now _)
    by_cases h6:b=63
    · rw [if_neg h5,if_pos h6];exact Ev.neg h5 (Ev.pos h6 (Ev.now _))
    rw [if_neg h5,if_neg h6,Bool.true_and]
    exact Ev.neg h5 (Ev.neg h6 ih)
theorem impl_PO0 (s:ByteArray) (g:Bool) (hs:s.size≤20):∀ (d i:Nat),i+d=s.size→Ev (fun k=>impl_goodPart.l0 k s g (i:Int)) (allOk g s i)
  | 0, i, hd => by
    rw [allOk_end g s i (by omega)]
    exact Ev.step (fun k=>impl_goodPart.l0.eq_2 ..) (Ev.neg (by omega) (Ev.now _))
  | d + 1, i, hd => by
    have hw:wrap64 ((i:Int)+1)=((i+1:Nat):Int):=by rw [w64 (by omega) (by omega)];omega
    have ih:=impl_PO0 s g hs d (i+1) (by omega)
    refine Ev.step (fun k=>impl_goodPart.l0.eq_2 ..) (Ev.pos (by omega) (Ev.pos (by omega) ?_))
    rw [allOk_step g s i (by omega),hw]
    unfold charOk
    generalize bt s (i:Int)=b
    by_cases h1:b<33
    · rw [if_pos h1];exact Ev.pos h1 (Ev.now _)
    by_cases h2:b>126
    · rw [if_neg h1,if_pos h2];exact Ev.neg h1 (Ev.pos h2 (Ev.now _))
    refine Ev.neg h1 (Ev.neg h2 ?_)
    rw [if_neg h1,if_neg h2]
    by_cases h4:b=34
    · rw [if_neg (by omega),if_pos h4];exact Ev.pos h4 (Ev.now _)
    refine Ev.neg h4 ?_
    by_cases h3:b=47
    · rw [if_pos h3];exact Ev.pos h3 (Ev.now _)
    rw [if_neg h3,if_neg h4]
    refine Ev.neg h3 ?_
    by_cases hg:g=true
    · rw [if_pos hg,Bool.true_and];exact Ev.pos hg ih
    rw [if_neg hg]
    refine Ev.neg hg ?_
    by_cases h5:b=42
    · rw [if_pos h5];exact Ev.pos h5 (Ev.now _)
    by_cases h6:b=63
    · rw [if_neg h5,if_pos h6];exact Ev.neg h5 (Ev.pos h6 (Ev.now _))
    rw [if_neg h5,if_neg h6,Bool.true_and]
    exact Ev.neg h5 (Ev.neg h6 ih)
theorem spec_part_ev (s : ByteArray) (g : Bool) : Ev (fun k => spec_l4PartOk.f k s g) (partOk s g) := by
  unfold spec_l4PartOk.f partOk
  rw [in_eq4]
  refine Ev.sb ?_
  have bad:Ev (fun k=>spec_l4PartOk.j0 k s g true) false:=Ev.step (fun k=>spec_l4PartOk.j0.eq_2 ..) (Ev.pos rfl (Ev.now _))
  by_cases h:1≤(s.size:Int)∧(s.size:Int)≤20
  · rw [if_pos h]
    refine Ev.pos (decide_eq_true h) ?_
    by_cases h1:s.toList=([46]:List UInt8)
    · rw [if_pos h1]
      exact Ev.pos h1 bad
    · rw [if_neg h1]
      refine Ev.neg h1 ?_
      by_cases h2:s.toList=([46,46]:List UInt8)
      · rw [if_pos h2, show (s.toList == ([46, 46] : List UInt8)) = true from beq_iff_eq.2 h2]
        exact bad
      · rw [if_neg h2, show (s.toList == ([46, 46] : List UInt8)) = false from beq_eq_false_iff_ne.2 h2]
        exact Ev.step (fun k=>spec_l4PartOk.j0.eq_2 ..) (Ev.neg (by simp) (spec_PO0 s g (by omega) s.size 0 (by omega)))
  · rw [if_neg h]
    exact Ev.neg (by simpa using h) bad
theorem impl_part_ev (s : ByteArray) (g : Bool) : Ev (fun k => impl_goodPart.f k s g) (partOk s g) := by
  unfold impl_goodPart.f partOk
  rw [impl_in_eq4]
  refine Ev.sb ?_
  have bad:Ev (fun k=>impl_goodPart.j0 k s g true) false:=Ev.step (fun k=>impl_goodPart.j0.eq_2 ..) (Ev.pos rfl (Ev.now _))
  by_cases h:1≤(s.size:Int)∧(s.size:Int)≤20
  · rw [if_pos h]
    refine Ev.pos (decide_eq_true h) ?_
    by_cases h1:s.toList=([46]:List UInt8)
    · rw [if_pos h1]
      exact Ev.pos h1 bad
    · rw [if_neg h1]
      refine Ev.neg h1 ?_
      by_cases h2:s.toList=([46,46]:List UInt8)
      · rw [if_pos h2, show (s.toList == ([46, 46] : List UInt8)) = true from beq_iff_eq.2 h2]
        exact bad
      · rw [if_neg h2, show (s.toList == ([46, 46] : List UInt8)) = false from beq_eq_false_iff_ne.2 h2]
        exact Ev.step (fun k=>impl_goodPart.j0.eq_2 ..) (Ev.neg (by simp) (impl_PO0 s g (by omega) s.size 0 (by omega)))
  · rw [if_neg h]
    exact Ev.neg (by simpa using h) bad

/-- A path or a glob holds. -/
def pathOk (s:ByteArray) (g:Bool):Bool:=if (piecesB 47 s).length>6 then false else (piecesB 47 s).all fun p=>partOk p g
theorem rdB_eq {l:List ByteArray} {i:Nat} (h:i<l.length):rdOf ByteArray.empty l (i:Int)=l[i]:=by
  unfold rdOf
  rw [Int.toNat_natCast,List.getD_eq_getElem?_getD,List.getElem?_eq_getElem h]
  rfl
theorem spec_Ok0 (g:Bool) (l:List ByteArray) (hl:l.length≤6):∀ (d i:Nat),i+d=l.length→Ev (fun k=>spec_l4Ok.l0 k g l (i:Int)) ((l.drop i).all fun p=>partOk p g)
  | 0, i, hd => by
    rw [List.drop_of_length_le (by omega)]
    exact Ev.step (fun k=>spec_l4Ok.l0.eq_2 ..) (Ev.neg (by omega) (Ev.now _))
  | d + 1, i, hd => by
    have hi:i<l.length:=by omega
    refine Ev.step (fun k=>spec_l4Ok.l0.eq_2 ..) (Ev.pos (by omega) (Ev.pos (by omega) ?_))
    rw [rdB_eq hi,List.drop_eq_getElem_cons hi,List.all_cons,w64 (by omega) (by omega),show (i:Int)+1=((i+1:Nat):Int) from by omega]
    refine Ev.bind (spec_part_ev l[i] g) ?_
    by_cases h:partOk l[i] g=true
    · rw [h, Bool.true_and]
      exact Ev.pos rfl (spec_Ok0 g l hl d (i+1) (by omega))
    · rw [Bool.eq_false_iff.2 h, Bool.false_and]
      exact Ev.neg (by simp) (Ev.now _)
theorem impl_Ok0 (g:Bool) (l:List ByteArray) (hl:l.length≤6):∀ (d i:Nat),i+d=l.length→Ev (fun k=>impl_parts.l0 k g l (l.length:Int) (i:Int)) ((l.drop i).all fun p=>partOk p g)
  | 0, i, hd => by
    rw [List.drop_of_length_le (by omega)]
    exact Ev.step (fun k=>impl_parts.l0.eq_2 ..) (Ev.neg (by omega) (Ev.now _))
  | d + 1, i, hd => by
    have hi:i<l.length:=by omega
    refine Ev.step (fun k=>impl_parts.l0.eq_2 ..) (Ev.pos (by omega) (Ev.pos (by omega) (Ev.pos (by omega) ?_)))
    rw [rdB_eq hi,List.drop_eq_getElem_cons hi,List.all_cons,w64 (by omega) (by omega),show (i:Int)+1=((i+1:Nat):Int) from by omega]
    refine Ev.bind (impl_part_ev l[i] g) ?_
    by_cases h:partOk l[i] g=true
    · rw [h, Bool.true_and]
      exact Ev.pos rfl (impl_Ok0 g l hl d (i+1) (by omega))
    · rw [Bool.eq_false_iff.2 h, Bool.false_and]
      exact Ev.neg (by simp) (Ev.now _)
theorem pathOk_long (s : ByteArray) (g : Bool) (h : 126 < s.size) : pathOk s g = false := by
  unfold pathOk
  split
  · rfl
  · rename_i h6
    apply Bool.eq_false_iff.2
    intro hall
    have ht:=cuts_total 47 s.data.toList []
    have hall':∀ l ∈ cuts 47 s.data.toList [],l.length≤20:=by
      intro l hl
      have:=List.all_eq_true.1 hall (ofBytes l) (List.mem_map.2 ⟨l,hl,rfl⟩)
      unfold partOk at this
      by_cases hz:1≤((ofBytes l).size:Int)∧((ofBytes l).size:Int)≤20
      · rw [ofBytes_size] at hz
        omega
      · rw [if_neg hz] at this
        cases this
    have hsum:∀ (L:List (List UInt8)),(∀ l ∈ L,l.length≤20)→(L.map List.length).sum≤20*L.length:=by
      intro L
      induction L with
      | nil=>intro _;simp
      | cons a L ih =>
        intro hL
        have:=ih (fun l hl=>hL l (List.mem_cons_of_mem _ hl))
        have:=hL a (List.mem_cons_self ..)
        simp only [List.map_cons,List.sum_cons,List.length_cons]
        omega
    have:=hsum _ hall'
    unfold piecesB at h6
    rw [List.length_map] at h6
    rw [size_toList] at ht
    simp only [List.length_nil] at ht
    omega
theorem spec_ok_ev (s:ByteArray) (g:Bool):Ev (fun k=>spec_l4Ok.f k s g) (pathOk s g):=by
  unfold spec_l4Ok.f
  by_cases h:(s.size:Int)>126
  · rw [pathOk_long s g (by omega)]
    exact Ev.pos h (Ev.now _)
  · refine Ev.neg h (Ev.bind (spec_parts_ev s (by omega)) ?_)
    unfold pathOk
    by_cases h6:(piecesB 47 s).length>6
    · rw [if_pos h6]
      exact Ev.pos (by omega) (Ev.now _)
    · rw [if_neg h6]
      exact Ev.neg (by omega) (spec_Ok0 g (piecesB 47 s) (by omega) (piecesB 47 s).length 0 (by omega))
theorem impl_parts_ev (s:ByteArray) (hs:s.size≤1048576) (g:Bool):Ev (fun k=>impl_parts.f k s g) (pathOk s g):=by
  unfold impl_parts.f pathOk
  rw [split_eq 47 s (by omega)]
  refine Ev.sb ?_
  by_cases h6:(piecesB 47 s).length>6
  · rw [if_pos h6]
    exact Ev.pos (by omega) (Ev.now _)
  · rw [if_neg h6]
    exact Ev.neg (by omega) (impl_Ok0 g (piecesB 47 s) (by omega) (piecesB 47 s).length 0 (by omega))

end Go.Proofs.YthfpoacindblgaaDoor.Pure


namespace Go.Proofs.YthfpoacindblgaaDoor.Pure
open Go Go.RowKit Go.Proofs.YthfpoacindblgaaDoor.P Go.Proofs.YthfpoacindblgaaDoorW.PrintWords Go.Proofs.YthfpoacindblgaaDoorW.PrintLast
set_option linter.unusedVariables false
set_option linter.unusedSimpArgs false

theorem spec_path_ev (s:ByteArray):Ev (fun k=>spec_ValidPath.f k s) (pathOk s false):=by
  unfold spec_ValidPath.f
  exact Ev.bind (spec_ok_ev s false) (Ev.now _)
theorem impl_path_ev (s:ByteArray) (h:s.size≤1048576):Ev (fun k=>impl_ValidPath.f k s) (pathOk s false):=by
  unfold impl_ValidPath.f
  exact Ev.bind (impl_parts_ev s h false) (Ev.now _)
theorem spec_begins_eq (a b : ByteArray) : spec_l5Begins.f a b = some (begins a b) := by
  unfold spec_l5Begins.f
  have h:=begins_iff a b
  by_cases h1:(b.size:Int)>(a.size:Int)
  · rw [if_pos h1, if_pos (by omega), if_pos (by omega), Int.toNat_natCast]
    by_cases h2:(b.extract 0 a.size).toList=a.toList
    · rw [if_pos h2, if_pos (by omega)]
      have h3:b.extract 0 a.size=a:=ba_ext (by rw [←Lib.toList_data,h2,Lib.toList_data])
      congr 1
      by_cases h4:bt b (a.size:Int)=47
      · rw [h.2 ⟨by omega, h3, h4⟩, h4]
        rfl
      · rw [Bool.eq_false_iff.2 (fun hh => h4 (h.1 hh).2.2)]
        exact beq_eq_false_iff_ne.2 h4
    · rw [if_neg h2,show begins a b=false from Bool.eq_false_iff.2 (fun hh=>h2 (by rw [(h.1 hh).2.1]))]
  · rw [if_neg h1,show begins a b=false from Bool.eq_false_iff.2 (fun hh=>h1 (by have:=(h.1 hh).1;omega))]
theorem impl_over_eq (a b:ByteArray) (ha:a.size≤1048576):impl_over.f a b=some (begins a b):=by
  unfold impl_over.f strings_HasPrefix.f stringslite_HasPrefix.f
  rw [if_pos (by omega)]
  have e:(a++(⟨#[47]⟩:ByteArray)).size=a.size+1:=ByteArray.size_append
  have ed:(a++(⟨#[47]⟩:ByteArray)).data.toList=a.data.toList ++ [47]:=data_append _ _
  have hb:begins a b=true ↔ (a++(⟨#[47]⟩:ByteArray)).data.toList <+: b.data.toList:=by
    unfold begins Lib.hasPrefix
    rw [List.isPrefixOf_iff_prefix,ed]
  rw [List.prefix_iff_eq_take] at hb
  have hx:(b.extract 0 (a++(⟨#[47]⟩:ByteArray)).size).data.toList=b.data.toList.take (a++(⟨#[47]⟩:ByteArray)).data.toList.length:=by
    rw [ByteArray.data_extract,Array.toList_extract,List.extract_eq_take_drop,List.drop_zero,Nat.sub_zero,size_toList]
  by_cases h1:(b.size:Int) ≥ ((a++(⟨#[47]⟩:ByteArray)).size:Int)
  · rw [if_pos h1, if_pos (by omega), if_pos (by omega), Int.toNat_natCast]
    show some ((b.extract 0 (a++(⟨#[47]⟩:ByteArray)).size).toList==(a++(⟨#[47]⟩:ByteArray)).toList)=some (begins a b)
    congr 1
    rw [Lib.toList_data,Lib.toList_data,hx]
    by_cases h2:begins a b=true
    · rw [h2, ← hb.1 h2]
      exact beq_self_eq_true _
    · rw [Bool.eq_false_iff.2 h2]
      exact beq_eq_false_iff_ne.2 (fun hh=>h2 (hb.2 hh.symm))
  · rw [if_neg h1]
    show some false=_
    rw [show begins a b=false from Bool.eq_false_iff.2 (fun hh=>h1 (by
      have:=((begins_iff a b).1 hh).1
      omega))]

/-- One of the rows behind i (d of them) lies over p. -/
def anyOver (l:List Entry) (p:ByteArray):Nat→Nat→Bool
  | 0,_=>false
  | d+1,i=>if begins (rd_T55 l (i:Int)).f0 p=true then true else anyOver l p d (i+1)
def entryOk (e:Entry):Bool:=if pathOk e.f0 false=true then decide ((e.f1.size:Int)≤1500) else false
def rowOk (l:List Entry) (i:Nat):Bool :=
  if entryOk (rd_T55 l (i:Int))=true then (if (i:Int)>0 then Op.bytesLess (rd_T55 l ((i:Int) - 1)).f0.toList (rd_T55 l (i:Int)).f0.toList else true) else false
def treeFrom (l:List Entry):Nat→Nat→Bool
  | 0,_=>true
  | d+1,i=>if rowOk l i=true then (if anyOver l (rd_T55 l (i:Int)).f0 i 0=true then false else treeFrom l d (i+1)) else false
def treeOk (l:List Entry):Bool:=if (l.length:Int)>100 then false else treeFrom l l.length 0

theorem spec_VT1 (l:List Entry) (hl:l.length≤100) (n:Nat) (hn:n<l.length) (p t:ByteArray) (u R:Bool) (hR:Ev (fun k=>spec_ValidTree.l0 k ((n:Int)+1) l) R):∀ (d j:Nat),j+d=n →
    Ev (fun k=>spec_ValidTree.l1 k (n:Int) (j:Int) l p t u) (if anyOver l p d j=true then false else R)
  | 0, j, hd => by
    rw [anyOver,if_neg (by simp)]
    refine Ev.step (fun k=>spec_ValidTree.l1.eq_2 ..) (Ev.neg (by omega) ?_)
    rw [w64 (n:=(n:Int)+1) (by omega) (by omega)]
    exact hR
  | d + 1, j, hd => by
    refine Ev.step (fun k=>spec_ValidTree.l1.eq_2 ..) (Ev.pos (by omega) (Ev.pos (by omega) (Ev.pos (by omega) ?_)))
    rw [spec_begins_eq,anyOver,w64 (n:=(j:Int)+1) (by omega) (by omega)]
    refine Ev.sb ?_
    by_cases h:begins (rd_T55 l (j:Int)).f0 p=true
    · rw [if_pos h, if_pos rfl]
      exact Ev.pos h (Ev.now _)
    · rw [if_neg h]
      exact Ev.neg h (spec_VT1 l hl n hn p t u R hR d (j+1) (by omega))
theorem spec_VT0 (l : List Entry) (hl : l.length ≤ 100) : ∀ (d i : Nat), i + d = l.length → Ev (fun k => spec_ValidTree.l0 k (i : Int) l) (treeFrom l d i)
  | 0, i, hd => by
    rw [treeFrom]
    exact Ev.step (fun k=>spec_ValidTree.l0.eq_2 ..) (Ev.neg (by omega) (Ev.now _))
  | d + 1, i, hd => by
    have ih:=spec_VT0 l hl d (i+1) (by omega)
    rw [show ((i+1:Nat):Int)=(i:Int)+1 from by omega] at ih
    refine Ev.step (fun k=>spec_ValidTree.l0.eq_2 ..) (Ev.pos (by omega) (Ev.pos (by omega) (Ev.bind (spec_path_ev _) ?_)))
    rw [treeFrom]
    have L:=fun p t u=>spec_VT1 l hl i (by omega) p t u _ ih i 0 (by omega)
    have jt:∀ p t u,Ev (fun k=>spec_ValidTree.j1 k (i:Int) true l p t u) false:=fun p t u=>Ev.step (fun k=>spec_ValidTree.j1.eq_2 ..) (Ev.pos rfl (Ev.now _))
    have jf:∀ p t u R,Ev (fun k=>spec_ValidTree.l1 k (i:Int) 0 l p t u) R→Ev (fun k=>spec_ValidTree.j1 k (i:Int) false l p t u) R:=fun p t u R h=>Ev.step (fun k=>spec_ValidTree.j1.eq_2 ..) (Ev.neg (by simp) h)
    by_cases h1:pathOk (rd_T55 l (i:Int)).f0 false=true
    · refine Ev.pos h1 ?_
      by_cases h2:((rd_T55 l (i:Int)).f1.size:Int)>1500
      · have e : rowOk l i = false := by
          unfold rowOk entryOk
          rw [if_pos h1,decide_eq_false (by omega)]
          rfl
        rw [e,if_neg (by simp)]
        exact Ev.pos h2 (jt _ _ _)
      · have e0 : entryOk (rd_T55 l (i : Int)) = true := by
          unfold entryOk
          rw [if_pos h1,decide_eq_true (by omega)]
        refine Ev.neg h2 ?_
        by_cases h3:(i:Int)>0
        · refine Ev.pos h3 ?_
          rw [w64 (n:=(i:Int) - 1) (by omega) (by omega)]
          refine Ev.pos (by omega) (Ev.pos (by omega) ?_)
          have e:rowOk l i=Op.bytesLess (rd_T55 l ((i:Int) - 1)).f0.toList (rd_T55 l (i:Int)).f0.toList:=by
            unfold rowOk
            rw [if_pos e0,if_pos h3]
          rw [e]
          by_cases h4:Op.bytesLess (rd_T55 l ((i:Int) - 1)).f0.toList (rd_T55 l (i:Int)).f0.toList=true
          · rw [if_pos h4, h4]
            exact jf _ _ _ _ (L _ _ _)
          · rw [if_neg h4, Bool.eq_false_iff.2 h4]
            exact jt _ _ _
        · have e : rowOk l i = true := by
            unfold rowOk
            rw [if_pos e0,if_neg h3]
          rw [e,if_pos rfl]
          exact Ev.neg h3 (jf _ _ _ _ (L _ _ _))
    · have e : rowOk l i = false := by
        unfold rowOk entryOk
        rw [if_neg h1]
        rfl
      rw [e,if_neg (by simp)]
      exact Ev.neg h1 (jt _ _ _)
theorem spec_ValidTree_ev (l:List Entry):Ev (fun k=>spec_ValidTree.f k l) (treeOk l):=by
  unfold spec_ValidTree.f treeOk
  by_cases h:(l.length:Int)>100
  · rw [if_pos h]
    exact Ev.pos h (Ev.now _)
  · rw [if_neg h]
    exact Ev.neg h (spec_VT0 l (by omega) l.length 0 (by omega))
theorem impl_VT1 (l:List Entry) (hl:l.length≤100) (hz:∀ i:Nat,(rd_T55 l (i:Int)).f0.size≤1048576) (n:Nat) (hn:n<l.length) (p t:ByteArray) (u R:Bool) (hR:Ev (fun k=>impl_ValidTree.l0 k l (l.length:Int) ((n:Int)+1) l) R):∀ (d j:Nat),j+d=n →
    Ev (fun k=>impl_ValidTree.l1 k (n:Int) (j:Int) l (l.length:Int) (n:Int) l p t u) (if anyOver l p d j=true then false else R)
  | 0, j, hd => by
    rw [anyOver,if_neg (by simp)]
    refine Ev.step (fun k=>impl_ValidTree.l1.eq_2 ..) (Ev.neg (by omega) ?_)
    rw [w64 (n:=(n:Int)+1) (by omega) (by omega)]
    exact hR
  | d + 1, j, hd => by
    refine Ev.step (fun k=>impl_ValidTree.l1.eq_2 ..) (Ev.pos (by omega) (Ev.pos (by omega) (Ev.pos (by omega) ?_)))
    rw [impl_over_eq _ _ (hz j),anyOver,w64 (n:=(j:Int)+1) (by omega) (by omega)]
    refine Ev.sb ?_
    by_cases h:begins (rd_T55 l (j:Int)).f0 p=true
    · rw [if_pos h, if_pos rfl]
      exact Ev.pos h (Ev.now _)
    · rw [if_neg h]
      exact Ev.neg h (impl_VT1 l hl hz n hn p t u R hR d (j+1) (by omega))
theorem impl_goodEntry_ev (p t:ByteArray) (u:Bool) (h:p.size≤1048576):Ev (fun k=>impl_goodEntry.f k p t u) (entryOk ⟨p,t,u⟩):=by
  unfold impl_goodEntry.f entryOk
  exact Ev.bind (impl_path_ev p h) (Ev.both (fun _=>Ev.now _) (fun _=>Ev.now _))
theorem impl_VT0 (l : List Entry) (hl : l.length ≤ 100) (hz : ∀ i : Nat, (rd_T55 l (i : Int)).f0.size ≤ 1048576) : ∀ (d i : Nat), i + d = l.length → Ev (fun k => impl_ValidTree.l0 k l (l.length : Int) (i : Int) l) (treeFrom l d i)
  | 0, i, hd => by
    rw [treeFrom]
    exact Ev.step (fun k=>impl_ValidTree.l0.eq_2 ..) (Ev.neg (by omega) (Ev.now _))
  | d + 1, i, hd => by
    have ih:=impl_VT0 l hl hz d (i+1) (by omega)
    rw [show ((i+1:Nat):Int)=(i:Int)+1 from by omega] at ih
    refine Ev.step (fun k=>impl_ValidTree.l0.eq_2 ..) (Ev.pos (by omega) (Ev.pos (by omega) (Ev.pos (by omega) (Ev.bind (impl_goodEntry_ev _ _ _ (hz i)) ?_))))
    rw [treeFrom]
    have L:=fun p t u=>impl_VT1 l hl hz i (by omega) p t u _ ih i 0 (by omega)
    have jt:∀ p t u,Ev (fun k=>impl_ValidTree.j1 k (i:Int) l (l.length:Int) (i:Int) true l p t u) false:=fun p t u=>Ev.step (fun k=>impl_ValidTree.j1.eq_2 ..) (Ev.pos rfl (Ev.now _))
    have jf:∀ p t u R,Ev (fun k=>impl_ValidTree.l1 k (i:Int) 0 l (l.length:Int) (i:Int) l p t u) R→Ev (fun k=>impl_ValidTree.j1 k (i:Int) l (l.length:Int) (i:Int) false l p t u) R:=fun p t u R h=>Ev.step (fun k=>impl_ValidTree.j1.eq_2 ..) (Ev.neg (by simp) h)
    have he:(⟨(rd_T55 l (i:Int)).f0,(rd_T55 l (i:Int)).f1,(rd_T55 l (i:Int)).f2⟩:Entry)=rd_T55 l (i:Int):=rfl
    rw [he]
    by_cases h1:entryOk (rd_T55 l (i:Int))=true
    · refine Ev.pos h1 ?_
      by_cases h3:(i:Int)>0
      · refine Ev.pos h3 ?_
        rw [w64 (n:=(i:Int) - 1) (by omega) (by omega)]
        refine Ev.pos (by omega) (Ev.pos (by omega) ?_)
        have e:rowOk l i=Op.bytesLess (rd_T55 l ((i:Int) - 1)).f0.toList (rd_T55 l (i:Int)).f0.toList:=by
          unfold rowOk
          rw [if_pos h1,if_pos h3]
        rw [e]
        by_cases h4:Op.bytesLess (rd_T55 l ((i:Int) - 1)).f0.toList (rd_T55 l (i:Int)).f0.toList=true
        · rw [if_pos h4, h4]
          exact jf _ _ _ _ (L _ _ _)
        · rw [if_neg h4, Bool.eq_false_iff.2 h4]
          exact jt _ _ _
      · have e : rowOk l i = true := by
          unfold rowOk
          rw [if_pos h1,if_neg h3]
        rw [e,if_pos rfl]
        exact Ev.neg h3 (jf _ _ _ _ (L _ _ _))
    · have e : rowOk l i = false := by
        unfold rowOk
        rw [if_neg h1]
      rw [e,if_neg (by simp)]
      exact Ev.neg h1 (jt _ _ _)
theorem rdE_small {l:List Entry} (h:∀ e ∈ l,e.f0.size≤1048576) (i:Nat):(rd_T55 l (i:Int)).f0.size≤1048576:=by
  by_cases hi:i<l.length
  · rw [rdE_eq hi]
    exact h _ (List.getElem_mem hi)
  · have : rd_T55 l (i : Int) = z55 := by
      show l.getD (i:Int).toNat _=_
      rw [Int.toNat_natCast,List.getD_eq_getElem?_getD,List.getElem?_eq_none (by omega)]
      rfl
    rw [this]
    decide
theorem impl_ValidTree_ev (l:List Entry) (hz:∀ e ∈ l,e.f0.size≤1048576):Ev (fun k=>impl_ValidTree.f k l) (treeOk l):=by
  unfold impl_ValidTree.f treeOk
  by_cases h:(l.length:Int)>100
  · rw [if_pos h]
    exact Ev.pos h (Ev.now _)
  · rw [if_neg h]
    exact Ev.neg h (impl_VT0 l (by omega) (rdE_small hz) l.length 0 (by omega))

end Go.Proofs.YthfpoacindblgaaDoor.Pure


namespace Go.Proofs.YthfpoacindblgaaDoor.Pure
open Go Go.RowKit Go.Proofs.YthfpoacindblgaaDoor.P Go.Proofs.YthfpoacindblgaaDoorW.PrintWords Go.Proofs.YthfpoacindblgaaDoorW.PrintLast
set_option linter.unusedVariables false
set_option linter.unusedSimpArgs false

theorem treeFrom_rows (l : List Entry) : ∀ (d i : Nat), treeFrom l d i = true → ∀ j, i ≤ j → j < i + d → rowOk l j = true
  | 0,i,h,j,h1,h2=>by omega
  | d + 1, i, h, j, h1, h2 => by
    unfold treeFrom at h
    split at h
    · rename_i hr
      split at h
      · cases h
      · rcases Nat.eq_or_lt_of_le h1 with rfl | h3
        · exact hr
        · exact treeFrom_rows l d (i+1) h j (by omega) (by omega)
    · cases h
theorem treeOk_rows {l:List Entry} (h:treeOk l=true) (j:Nat) (hj:j<l.length):rowOk l j=true:=by
  unfold treeOk at h
  split at h
  · cases h
  · exact treeFrom_rows l _ _ h j (by omega) (by omega)
/-- The rows' paths ascend. -/
theorem treeOk_next {l:List Entry} (h:treeOk l=true) (j:Nat) (hj:j+1<l.length):less (l[j].f0.toList) (l[j+1].f0.toList)=true:=by
  have:=treeOk_rows h (j+1) hj
  unfold rowOk at this
  split at this
  · rw [if_pos (by omega), show ((j + 1 : Nat) : Int) - 1 = (j : Int) from by omega, rdE_eq (show j < l.length by omega), rdE_eq hj] at this
    exact this
  · cases this
theorem treeOk_asc {l:List Entry} (h:treeOk l=true):∀ (d i:Nat) (hj:i+d+1<l.length),less (l[i].f0.toList) (l[i+d+1].f0.toList)=true
  | 0,i,hj=>treeOk_next h i hj
  | d+1,i,hj=>less_trans _ _ _ (treeOk_asc h d i (by omega)) (treeOk_next h (i+d+1) (by omega))
theorem treeOk_lt {l:List Entry} (h:treeOk l=true) {i j:Nat} (hij:i<j) (hj:j<l.length):less (l[i].f0.toList) (l[j].f0.toList)=true:=by
  have:=treeOk_asc h (j - i - 1) i (by omega)
  simp only [show i+(j - i - 1)+1=j from by omega] at this
  exact this

end Go.Proofs.YthfpoacindblgaaDoor.Pure


namespace Go.Proofs.YthfpoacindblgaaDoor.Pure
open Go Go.RowKit Go.Proofs.YthfpoacindblgaaDoor.P Go.Proofs.YthfpoacindblgaaDoorW.PrintWords Go.Proofs.YthfpoacindblgaaDoorW.PrintLast
set_option linter.unusedVariables false
set_option linter.unusedSimpArgs false

theorem asc_apart {l:List Entry} (h:l.Pairwise ltE):Apart l:=h.imp fun {a b} hab e=>by
  unfold ltE at hab
  rw [e,less_irrefl] at hab
  cases hab
theorem treeOk_pair {l:List Entry} (h:treeOk l=true):l.Pairwise ltE:=by
  rw [List.pairwise_iff_getElem]
  intro i j hi hj hij
  exact treeOk_lt h hij hj
theorem pathOk_size {s:ByteArray} {g:Bool} (h:pathOk s g=true):s.size≤126:=by
  rcases Nat.lt_or_ge 126 s.size with h'|h'
  · rw [pathOk_long s g h'] at h
    cases h
  · exact h'
theorem treeOk_path {l:List Entry} (h:treeOk l=true) {i:Nat} (hi:i<l.length):pathOk l[i].f0 false=true:=by
  have:=treeOk_rows h i hi
  unfold rowOk entryOk at this
  rw [rdE_eq hi] at this
  by_cases hp:pathOk l[i].f0 false=true
  · exact hp
  · rw [if_neg hp] at this
    cases this
theorem treeOk_size {l:List Entry} (h:treeOk l=true) {i:Nat} (hi:i<l.length):l[i].f0.size≤126:=pathOk_size (treeOk_path h hi)
theorem treeOk_size' {l:List Entry} (h:treeOk l=true):∀ e ∈ l,e.f0.size≤126:=by
  intro e he
  obtain ⟨i,hi,rfl⟩:=List.getElem_of_mem he
  exact treeOk_size h hi
theorem treeOk_len100 {l:List Entry} (h:treeOk l=true):l.length≤100:=by
  unfold treeOk at h
  split at h
  · cases h
  · omega
theorem anyOver_iff (l : List Entry) (p : ByteArray) : ∀ (d j : Nat), anyOver l p d j = true ↔ ∃ k, j ≤ k ∧ k < j + d ∧ begins (rd_T55 l (k : Int)).f0 p = true
  | 0, j => by
    rw [anyOver]
    exact ⟨fun h=>(by cases h),fun ⟨k,h1,h2,_⟩=>(by omega)⟩
  | d + 1, j => by
    rw [anyOver]
    split
    · rename_i h
      exact ⟨fun _=>⟨j,by omega,by omega,h⟩,fun _=>rfl⟩
    · rename_i h
      rw [anyOver_iff l p d (j+1)]
      constructor
      · rintro ⟨k, h1, h2, h3⟩
        exact ⟨k,by omega,by omega,h3⟩
      · rintro ⟨k, h1, h2, h3⟩
        refine ⟨k,?_,by omega,h3⟩
        rcases Nat.lt_or_ge j k with h'|h'
        · omega
        · obtain rfl : k = j := by omega
          exact absurd h3 h
theorem treeFrom_iff (l : List Entry) : ∀ (d i : Nat), treeFrom l d i = true ↔ ∀ j, i ≤ j → j < i + d → rowOk l j = true ∧ anyOver l (rd_T55 l (j : Int)).f0 j 0 = false
  | 0, i => by
    rw [treeFrom]
    exact ⟨fun _ j h1 h2=>(by omega),fun _=>rfl⟩
  | d + 1, i => by
    rw [treeFrom]
    constructor
    · intro h j h1 h2
      split at h
      · rename_i hr
        split at h
        · cases h
        · rename_i ho
          rcases Nat.lt_or_ge i j with h'|h'
          · exact (treeFrom_iff l d (i+1)).1 h j (by omega) (by omega)
          · obtain rfl : j = i := by omega
            exact ⟨hr,Bool.eq_false_iff.2 ho⟩
      · cases h
    · intro h
      obtain ⟨h1,h2⟩:=h i (Nat.le_refl _) (by omega)
      rw [if_pos h1,if_neg (by rw [h2];simp)]
      exact (treeFrom_iff l d (i+1)).2 (fun j h3 h4=>h j (by omega) (by omega))
/-- Two paths of which the first is not a directory of the second. -/
def clear (x y:Entry):Prop:=begins x.f0 y.f0=false
theorem treeOk_iff (l : List Entry) : treeOk l = true ↔ l.length ≤ 100 ∧ (∀ e ∈ l, entryOk e = true) ∧ l.Pairwise ltE ∧ l.Pairwise clear := by
  constructor
  · intro h
    have hl:=treeOk_len100 h
    refine ⟨hl,fun e he => ?_,treeOk_pair h,?_⟩
    · obtain ⟨i, hi, rfl⟩ := List.getElem_of_mem he
      have:=treeOk_rows h i hi
      unfold rowOk at this
      rw [rdE_eq hi] at this
      by_cases hh:entryOk l[i]=true
      · exact hh
      · rw [if_neg hh] at this
        cases this
    · rw [List.pairwise_iff_getElem]
      intro i j hi hj hij
      unfold treeOk at h
      rw [if_neg (by omega),treeFrom_iff] at h
      have h2:=(h j (by omega) (by omega)).2
      show begins l[i].f0 l[j].f0=false
      rw [Bool.eq_false_iff] at h2 ⊢
      intro hb
      refine h2 ((anyOver_iff _ _ _ _).2 ⟨i,by omega,by omega,?_⟩)
      rw [rdE_eq hi,rdE_eq hj]
      exact hb
  · rintro ⟨hl, h1, h2, h3⟩
    unfold treeOk
    rw [if_neg (by omega),treeFrom_iff]
    intro j _ hj
    have hj':j<l.length:=by omega
    refine ⟨?_,?_⟩
    · unfold rowOk
      rw [rdE_eq hj',if_pos (h1 _ (List.getElem_mem hj'))]
      match j,hj' with
      | 0,_=>rw [if_neg (by omega)]
      | i + 1, hj' =>
        rw [if_pos (by omega),show ((i+1:Nat):Int) - 1=(i:Int) from by omega,rdE_eq (by omega:i<l.length)]
        exact (List.pairwise_iff_getElem.1 h2) i (i+1) (by omega) hj' (by omega)
    · rw [Bool.eq_false_iff]
      intro hb
      obtain ⟨k,_,hk,hb⟩:=(anyOver_iff _ _ _ _).1 hb
      have hk':k<j:=by omega
      rw [rdE_eq hj',rdE_eq (by omega:k<l.length)] at hb
      have:=(List.pairwise_iff_getElem.1 h3) k j (by omega) hj' hk'
      unfold clear at this
      rw [hb] at this
      cases this
/-- A directory stands ahead of what lies in it. -/
theorem begins_less {a b:ByteArray} (h:begins a b=true):less a.toList b.toList=true:=by
  unfold begins Lib.hasPrefix at h
  rw [List.isPrefixOf_iff_prefix] at h
  obtain ⟨t,h⟩:=h
  rw [Lib.toList_data,Lib.toList_data,←h]
  have:∀ (a t:List UInt8),less a (a ++ [47]++t)=true:=by
    intro a t
    induction a with
    | nil=>simp [less,Op.bytesLess]
    | cons x r ih =>
      simp only [less,Op.bytesLess,List.cons_append] at ih ⊢
      simpa using ih
  exact this _ _

end Go.Proofs.YthfpoacindblgaaDoor.Pure


namespace Go.Proofs.YthfpoacindblgaaDoor.Pure
open Go Go.RowKit Go.Proofs.YthfpoacindblgaaDoor.P Go.Proofs.YthfpoacindblgaaDoorW.PrintWords Go.Proofs.YthfpoacindblgaaDoorW.PrintLast
set_option linter.unusedVariables false
set_option linter.unusedSimpArgs false

def hstep (h b:Int):Int:=IntKind.u64.wrap ((Go.bits .xor .u64 h (IntKind.u64.wrap b))*1099511628211)
def hashN (s:ByteArray):Nat→Int
  | 0=>14695981039346656037
  | n+1=>hstep (hashN s n) (bt s n)
def hash (s:ByteArray):Int:=hashN s s.size
theorem hashN_range (s:ByteArray):∀ n,0≤hashN s n∧hashN s n<18446744073709551616
  | 0=>by simp [hashN]
  | n+1=>u64_range _
theorem hash_range (s:ByteArray):0≤hash s∧hash s<18446744073709551616:=hashN_range s s.size

/-- The last w bytes of a number, the highest first. -/
def low (h:Int):Nat→List Int
  | 0 => []
  | w+1=>low (h / 256) w ++ [h % 256]
theorem low_length:∀ (w:Nat) (h:Int),(low h w).length=w
  | 0,_=>rfl
  | w+1,h=>by rw [low,List.length_append,low_length w];rfl
theorem low_more:∀ (b a:Nat) (h:Int),∃ l,l.length=a∧low h (a+b)=l++low h b
  | 0,a,h=>⟨low h a,low_length a h,by simp [low]⟩
  | b + 1, a, h => by
    obtain ⟨l,hl,e⟩:=low_more b a (h / 256)
    exact ⟨l,hl,by rw [←Nat.add_assoc,low,low,e,List.append_assoc]⟩
theorem low_drop {a w:Nat} (hw:w≤a) (h:Int):(low h a).drop (a - w)=low h w:=by
  obtain ⟨l,hl,e⟩:=low_more w (a - w) h
  rw [show a - w+w=a from by omega] at e
  rw [e,List.drop_left' hl]
def sumOf (s:ByteArray) (w:Int):ByteArray:=if 1≤w∧w≤8 then strOfNums (low (hash s) w.toNat) else ⟨#[]⟩
theorem sumOf_size (s:ByteArray) (w:Int):(sumOf s w).size≤8:=by
  unfold sumOf
  split
  · rw [son_size, low_length]
    omega
  · simp [ByteArray.size]
theorem sumOf_size_eq (s:ByteArray) {w:Int} (h:1≤w∧w≤8):((sumOf s w).size:Int)=w:=by
  unfold sumOf
  rw [if_pos h,son_size,low_length]
  omega

theorem spec_l1 (w:Nat) (hw:w≤8):∀ (d k:Nat) (v:Int) (out:ByteArray) (i:Nat),i+d=w→out.size=i→d<k→0≤v→v<18446744073709551616 →
    spec_Sum.l1 k (w:Int) v out (i:Int)=some (strOfNums (low v d)++out)
  | 0, k + 1, v, out, i, hd, ho, _, _, _ => by
    simp only [spec_Sum.l1]
    rw [if_neg (by omega),low,show strOfNums []=(⟨#[]⟩:ByteArray) from rfl,ba_empty_append]
  | d + 1, k + 1, v, out, i, hd, ho, hk, h0, h1 => by
    simp only [spec_Sum.l1]
    rw [if_pos (by omega),Option.bind_some,Int.tmod_eq_emod_of_nonneg h0,Int.tdiv_eq_ediv_of_nonneg h0,son_size,if_pos (by simp;omega),u64_in (by omega) (by omega),w64 (by omega) (by omega)]
    rw [show (i:Int)+1=((i+1:Nat):Int) from by omega,spec_l1 w hw d k (v / 256) _ (i+1) (by omega) (by rw [ByteArray.size_append,son_size,ho];simp;omega) (by omega) (by omega) (by omega),low,son_append]
    congr 1
    apply ba_ext
    simp only [data_append,List.append_assoc]
    congr 2
    rw [Int.emod_emod_of_dvd _ (by decide)]
theorem spec_l0 (s:ByteArray) (hs:s.size≤140737488351232) (w:Nat) (hw:w≤8):∀ (d k i:Nat),i+d=s.size→d+9<k →
    spec_Sum.l0 k s (w:Int) (hashN s i) (i:Int)=some (strOfNums (low (hash s) w))
  | 0, k + 1, i, hd, hk => by
    simp only [spec_Sum.l0]
    rw [if_neg (by omega),show hashN s i=hash s from by unfold hash;congr 1]
    have:=spec_l1 w hw w k (hash s) ⟨#[]⟩ 0 (by omega) rfl (by omega) (hash_range s).1 (hash_range s).2
    rw [ba_append_empty] at this
    exact this
  | d + 1, k + 1, i, hd, hk => by
    simp only [spec_Sum.l0]
    rw [if_pos (by omega),if_pos (by omega),w64 (by omega) (by omega),show (i:Int)+1=((i+1:Nat):Int) from by omega]
    exact spec_l0 s hs w hw d k (i+1) (by omega) (by omega)
theorem in_eq (a b c:Int):spec_l1In.f a b c=some (decide (b≤a∧a≤c)):=by
  unfold spec_l1In.f
  split
  · simp_all
  · rename_i h
    simp only [ge_iff_le,Int.not_le] at h
    simp [Int.not_le.2 h]
theorem impl_in_eq (a b c:Int):impl_in.f a b c=some (decide (b≤a∧a≤c)):=by
  unfold impl_in.f
  split
  · simp_all
  · rename_i h
    simp only [ge_iff_le,Int.not_le] at h
    simp [Int.not_le.2 h]
theorem spec_Sum_eq (s:ByteArray) (hs:s.size≤140737488351232) (w:Int) (k:Nat) (hk:s.size+9<k):spec_Sum.f k s w=some (sumOf s w):=by
  unfold spec_Sum.f
  rw [in_eq,Option.bind_some]
  by_cases h:1≤w∧w≤8
  · rw [if_pos (decide_eq_true h)]
    obtain ⟨n,rfl⟩:=Int.eq_ofNat_of_zero_le (show 0≤w by omega)
    have:=spec_l0 s hs n (by omega) s.size k 0 (by omega) hk
    unfold sumOf
    rw [if_pos h,Int.toNat_natCast]
    exact this
  · rw [if_neg (by simpa using h)]
    unfold sumOf
    rw [if_neg h]

theorem impl_l1 (w:Nat) (hw:w≤8):∀ (d k:Nat) (v h:Int) (l:List Int),d≤8→l.length=8→d<k→0≤v→low h 8=low v d++l.drop d →
    impl_Sum.l1 k (w:Int) v l ((d:Int) - 1)=some (strOfNums (low h w))
  | 0, k + 1, v, h, l, _, hl, _, _, he => by
    simp only [impl_Sum.l1]
    rw [if_neg (by omega),w64 (by omega) (by omega),if_pos (by omega),if_pos (by omega)]
    rw [low,List.nil_append,List.drop_zero] at he
    rw [←he,show ((8:Int) - (w:Int)).toNat=8 - w from by omega,low_drop hw]
  | d + 1, k + 1, v, h, l, hd, hl, hk, h0, he => by
    simp only [impl_Sum.l1]
    rw [if_pos (by omega),if_pos (by omega),if_pos (by omega),w64 (by omega) (by omega),show ((d+1:Nat):Int) - 1 - 1=(d:Int) - 1 from by omega]
    refine impl_l1 w hw d k (v / 256) h _ (by omega) (by rw [List.length_set,hl]) (by omega) (by omega) ?_
    rw [he,low,List.append_assoc,show (((d+1:Nat):Int) - 1).toNat=d from by omega]
    congr 1
    rw [List.drop_set,if_neg (by omega),Nat.sub_self]
    have:l.drop d=l[d]'(by omega) :: l.drop (d+1):=List.drop_eq_getElem_cons (by omega)
    rw [this]
    rfl
theorem impl_l0 (s:ByteArray) (hs:s.size≤140737488351232) (w:Nat) (hw:w≤8):∀ (d k i:Nat),i+d=s.size→d+9<k →
    impl_Sum.l0 k s (w:Int) (hashN s i) (i:Int)=some (strOfNums (low (hash s) w))
  | 0, k + 1, i, hd, hk => by
    simp only [impl_Sum.l0]
    rw [if_neg (by omega),if_pos (by omega),show hashN s i=hash s from by unfold hash;congr 1]
    exact impl_l1 w hw 8 k (hash s) (hash s) _ (by omega) (by simp) (by omega) (hash_range s).1 (by rw [List.drop_of_length_le (by simp),List.append_nil])
  | d + 1, k + 1, i, hd, hk => by
    simp only [impl_Sum.l0]
    rw [if_pos (by omega),if_pos (by omega),w64 (by omega) (by omega),show (i:Int)+1=((i+1:Nat):Int) from by omega]
    exact impl_l0 s hs w hw d k (i+1) (by omega) (by omega)
theorem impl_Sum_eq (s:ByteArray) (hs:s.size≤140737488351232) (w:Int) (k:Nat) (hk:s.size+9<k):impl_Sum.f k s w=some (sumOf s w):=by
  unfold impl_Sum.f
  rw [impl_in_eq,Option.bind_some]
  by_cases h:1≤w∧w≤8
  · rw [if_pos (decide_eq_true h)]
    obtain ⟨n,rfl⟩:=Int.eq_ofNat_of_zero_le (show 0≤w by omega)
    have:=impl_l0 s hs n (by omega) s.size k 0 (by omega) hk
    unfold sumOf
    rw [if_pos h,Int.toNat_natCast]
    exact this
  · rw [if_neg (by simpa using h)]
    unfold sumOf
    rw [if_neg h]

end Go.Proofs.YthfpoacindblgaaDoor.Pure


namespace Go.Proofs.YthfpoacindblgaaDoor.Pure
open Go Go.RowKit Go.Proofs.YthfpoacindblgaaDoor.P Go.Proofs.YthfpoacindblgaaDoorW.PrintWords Go.Proofs.YthfpoacindblgaaDoorW.PrintLast
set_option linter.unusedVariables false
set_option linter.unusedSimpArgs false

def hexB (s:ByteArray):ByteArray:=⟨(Lib.Hx.encode s.data.toList).toArray⟩
theorem hexB_size (s:ByteArray):(hexB s).size=2*s.size:=by
  unfold hexB
  show (Lib.Hx.encode s.data.toList).toArray.size=2*s.size
  rw [List.size_toArray,←size_toList]
  generalize s.data.toList=l
  unfold Lib.Hx.encode
  induction l with
  | nil=>rfl
  | cons a r ih =>
    rw [List.flatMap_cons,List.length_append,ih,List.length_cons]
    simp
    omega
def fileLine (w:Int) (n t:ByteArray) (r:Bool):ByteArray:=(if r=true then (⟨#[120,32]⟩:ByteArray) else ⟨#[102,32]⟩)++n++⟨#[32]⟩++hexB (sumOf ((⟨#[102,105,108,101,32]⟩:ByteArray)++t) w)++⟨#[10]⟩
def dirLine (w:Int) (n T:ByteArray):ByteArray:=(⟨#[100,32]⟩:ByteArray)++n++⟨#[32]⟩++hexB (sumOf T w)++⟨#[10]⟩
theorem line_size {a b n h:ByteArray} {m:Nat} (ha:a.size=2) (hb:b.size≤m):(a++n++⟨#[32]⟩++hexB b++⟨#[10]⟩).size≤n.size+2*m+4∧4≤(a++n++⟨#[32]⟩++hexB b++⟨#[10]⟩).size:=by
  have h1:(⟨#[32]⟩:ByteArray).size=1:=rfl
  have h2:(⟨#[10]⟩:ByteArray).size=1:=rfl
  rw [ByteArray.size_append,ByteArray.size_append,ByteArray.size_append,ByteArray.size_append,hexB_size,ha,h1,h2]
  omega
theorem fileLine_size (w:Int) (n t:ByteArray) (r:Bool):(fileLine w n t r).size≤n.size+20∧4≤(fileLine w n t r).size:=by
  unfold fileLine
  exact line_size (h:=n) (by cases r <;> rfl) (sumOf_size _ _)
theorem dirLine_size (w:Int) (n T:ByteArray):(dirLine w n T).size≤n.size+20∧4≤(dirLine w n T).size:=by
  unfold dirLine
  exact line_size (h:=n) rfl (sumOf_size _ _)
/-- The first part. -/
def firstB (s:ByteArray):ByteArray:=⟨(s.data.toList.takeWhile (· != 47)).toArray⟩
def deep (s:ByteArray):Bool:=decide ((47:UInt8) ∈ s.data.toList)
theorem mkB (l:List UInt8):(⟨l.toArray⟩:ByteArray).data.toList=l:=by simp
theorem toL_inj {a b:ByteArray}:a.toList=b.toList ↔ a=b:=⟨str_eq,fun h=>by rw [h]⟩
theorem begins_split (d p:ByteArray):begins d p=true ↔ ∃ t,p.data.toList=d.data.toList++47 :: t:=by
  unfold begins Lib.hasPrefix
  rw [List.isPrefixOf_iff_prefix]
  constructor
  · rintro ⟨t, h⟩
    exact ⟨t,by rw [←h,List.append_assoc];rfl⟩
  · rintro ⟨t, h⟩
    exact ⟨t,by rw [h,List.append_assoc];rfl⟩
def subE (n:ByteArray) (e:Entry):Entry:=⟨e.f0.extract (n.size+1) e.f0.size,e.f1,e.f2⟩
def subL (n:ByteArray) (l:List Entry):List Entry:=(l.filter fun e=>begins n e.f0).map (subE n)
theorem sub_path {n p:ByteArray} {t:List UInt8} (h:p.data.toList=n.data.toList++47 :: t):(p.extract (n.size+1) p.size).data.toList=t:=by
  rw [ByteArray.data_extract,Array.toList_extract,List.extract_eq_take_drop,h,show n.data.toList++47 :: t=(n.data.toList ++ [47])++t from by simp,List.drop_left' (by simp [size_toList])]
  refine List.take_of_length_le ?_
  have:p.size=n.size+1+t.length:=by
    rw [←size_toList p,h,List.length_append,List.length_cons,size_toList]
    omega
  omega
theorem tw_free {a:List UInt8} (h:(47:UInt8) ∉ a):a.takeWhile (· != 47)=a:=by
  induction a with
  | nil=>rfl
  | cons x r ih =>
    rw [List.takeWhile_cons_of_pos (by
      simp only [bne_iff_ne,ne_eq]
      rintro rfl
      exact h List.mem_cons_self),ih (fun hm=>h (List.mem_cons_of_mem _ hm))]
theorem tw_hit {a:List UInt8} (h:(47:UInt8) ∉ a) (t:List UInt8):(a++47 :: t).takeWhile (· != 47)=a:=by
  rw [List.takeWhile_append_of_pos (fun x hx=>by
    simp only [bne_iff_ne,ne_eq]
    rintro rfl
    exact h hx)]
  simp
theorem split47 : ∀ l : List UInt8, (47 : UInt8) ∈ l → ∃ a t, (47 : UInt8) ∉ a ∧ l = a ++ 47 :: t
  | [],h=>by cases h
  | b :: r, h => by
    by_cases hb:b=47
    · exact ⟨[],r,by simp,by rw [hb];rfl⟩
    · rcases List.mem_cons.1 h with e | h
      · exact absurd e.symm hb
      · obtain ⟨a, t, h1, h2⟩ := split47 r h
        refine ⟨b :: a,t,fun hm => ?_,by rw [h2];rfl⟩
        rcases List.mem_cons.1 hm with e|hm
        · exact hb e.symm
        · exact h1 hm
theorem first_free (s:ByteArray):(47:UInt8) ∉ (firstB s).data.toList:=by
  unfold firstB
  rw [mkB]
  generalize s.data.toList=l
  induction l with
  | nil=>simp
  | cons b r ih =>
    by_cases hb:b=47
    · rw [List.takeWhile_cons_of_neg (by simpa using hb)]
      simp
    · rw [List.takeWhile_cons_of_pos (by simpa using hb)]
      intro hm
      rcases List.mem_cons.1 hm with e|hm
      · exact hb e.symm
      · exact ih hm
theorem first_flat {s:ByteArray} (h:deep s=false):firstB s=s:=by
  apply ba_ext
  unfold firstB
  rw [mkB,tw_free (of_decide_eq_false h)]
theorem first_deep {s:ByteArray} (h:deep s=true):begins (firstB s) s=true:=by
  obtain ⟨a,t,h1,h2⟩:=split47 _ (of_decide_eq_true h)
  rw [begins_split]
  refine ⟨t,?_⟩
  unfold firstB
  rw [mkB,h2,tw_hit h1]
theorem first_begins {n s:ByteArray} (hn:(47:UInt8) ∉ n.data.toList) (h:begins n s=true):firstB s=n∧deep s=true:=by
  obtain ⟨t,ht⟩:=(begins_split _ _).1 h
  refine ⟨ba_ext ?_,?_⟩
  · unfold firstB
    rw [mkB,ht,tw_hit hn]
  · unfold deep
    rw [ht]
    simp
/-- Rows in order, none of them over another one; each part of a path is there. -/
structure Tidy (l:List Entry):Prop where
  asc:l.Pairwise ltE
  clr:l.Pairwise clear
  nil:∀ e ∈ l,∀ n,(47:UInt8) ∉ n→n = [] → ¬ ∃ t,e.f0.data.toList=n++47 :: t
  pos:∀ e ∈ l,e.f0.data.toList ≠ []
def slashes (e:Entry):Nat:=e.f0.data.toList.count 47
theorem sub_mem {n:ByteArray} {l:List Entry} {x:Entry} (h:x ∈ subL n l):∃ e ∈ l,begins n e.f0=true∧x=subE n e:=by
  unfold subL at h
  obtain ⟨e,he,rfl⟩:=List.mem_map.1 h
  exact ⟨e,(List.mem_filter.1 he).1,(List.mem_filter.1 he).2,rfl⟩
theorem sub_slashes {n:ByteArray} {e:Entry} (h:begins n e.f0=true):slashes (subE n e)<slashes e:=by
  obtain ⟨t,ht⟩:=(begins_split _ _).1 h
  unfold slashes subE
  dsimp only
  rw [sub_path ht,ht,List.count_append,List.count_cons_self]
  omega
theorem sub_shallow {n:ByteArray} {l:List Entry} {d:Nat} (h:∀ e ∈ l,slashes e<d+1):∀ e ∈ subL n l,slashes e<d:=by
  intro x hx
  obtain ⟨e,he,hb,rfl⟩:=sub_mem hx
  have h1:=sub_slashes hb
  have h2:=h e he
  omega
def atF (l:List Entry) (n:ByteArray):Option Entry:=l.find? fun e=>decide (e.f0.toList=n.toList)
def lineOf (w:Int) (D:List Entry→ByteArray) (l:List Entry) (n:ByteArray):ByteArray:=match atF l n with
  | some e=>fileLine w n e.f1 e.f2
  | none=>dirLine w n (D (subL n l))
theorem lineOf_size (w:Int) (D:List Entry→ByteArray) (l:List Entry) (n:ByteArray):(lineOf w D l n).size≤n.size+20∧4≤(lineOf w D l n).size:=by
  unfold lineOf
  split
  · exact fileLine_size _ _ _ _
  · exact dirLine_size _ _ _
def gather (L:List ByteArray):ByteArray:=L.foldl (· ++ ·) ⟨#[]⟩
def firsts (l:List Entry):List ByteArray:=l.map fun e=>firstB e.f0
/-- The text of a directory; d: more than the slashes of any path. -/
def dirT (w:Int):Nat→List Entry→ByteArray
  | 0,_=>⟨#[]⟩
  | d+1,l=>gather ((keysS (firsts l)).map (lineOf w (dirT w d) l))
theorem gather_size (m:Nat):∀ (L:List ByteArray) (a:ByteArray),(∀ x ∈ L,x.size≤m)→(L.foldl (· ++ ·) a).size≤a.size+L.length*m
  | [],a,_=>by simp
  | x :: r, a, h => by
    have h1:=gather_size m r (a++x) (fun y hy=>h y (List.mem_cons_of_mem _ hy))
    have h2:=h x List.mem_cons_self
    rw [List.foldl_cons,List.length_cons,Nat.add_mul]
    rw [ByteArray.size_append] at h1
    omega
theorem first_size (s:ByteArray):(firstB s).size≤s.size:=by
  unfold firstB
  show (s.data.toList.takeWhile (· != 47)).toArray.size≤_
  rw [List.size_toArray,←size_toList]
  exact (List.takeWhile_sublist _).length_le
theorem dirT_size (w:Int) (m:Nat):∀ (d:Nat) (l:List Entry),l.length≤100→(∀ e ∈ l,e.f0.size≤m)→(dirT w d l).size≤100*(m+20)
  | 0,l,_,_=>Nat.zero_le _
  | d + 1, l, hl, hm => by
    unfold dirT gather
    have h1:=gather_size (m+20) ((keysS (firsts l)).map (lineOf w (dirT w d) l)) ⟨#[]⟩ (fun x hx=>by
      obtain ⟨n,hn,rfl⟩:=List.mem_map.1 hx
      rw [keysS_mem] at hn
      obtain ⟨e,he,rfl⟩:=List.mem_map.1 hn
      have h2:=(lineOf_size w (dirT w d) l (firstB e.f0)).1
      have h3:=first_size e.f0
      have h4:=hm e he
      omega)
    have h5:=keysS_len (firsts l)
    unfold firsts at h5
    rw [List.length_map] at h1 h5
    have h6:(keysS (firsts l)).length*(m+20)≤100*(m+20):=Nat.mul_le_mul_right _ (by unfold firsts;omega)
    have h7:(⟨#[]⟩:ByteArray).size=0:=rfl
    omega
def stepD (w:Int) (D:ByteArray→ByteArray) (M:List (ByteArray×ByteArray)) (e:Entry):List (ByteArray×ByteArray) :=
  if deep e.f0=true then (if (mget (⟨#[]⟩:ByteArray) (firstB e.f0) M).toList = [] then mput (firstB e.f0) (dirLine w (firstB e.f0) (D (firstB e.f0))) M else M)
  else mput (firstB e.f0) (fileLine w (firstB e.f0) e.f1 e.f2) M
theorem atF_some {l : List Entry} {e : Entry} (ha : l.Pairwise ltE) (he : e ∈ l) : atF l e.f0 = some e := by
  unfold atF
  cases hf:l.find? (fun x=>decide (x.f0.toList=e.f0.toList)) with
  | none=>exact absurd (List.find?_eq_none.1 hf e he) (by simp)
  | some x =>
    have h1:=List.mem_of_find?_eq_some hf
    have h2:x.f0.toList=e.f0.toList:=by simpa using List.find?_some hf
    congr 1
    by_cases hxe:x=e
    · exact hxe
    · exfalso
      rcases List.getElem_of_mem h1 with ⟨i,hi,ei⟩
      rcases List.getElem_of_mem he with ⟨j,hj,ej⟩
      have hp:=List.pairwise_iff_getElem.1 (asc_apart ha)
      rcases Nat.lt_trichotomy i j with hij|hij|hij
      · exact hp i j hi hj hij (by rw [ei,ej,h2])
      · subst hij
        exact hxe (by rw [←ei,←ej])
      · exact hp j i hj hi hij (by rw [ei,ej,h2])
theorem tidy_over {l:List Entry} (h:Tidy l) {x y:Entry} (hx:x ∈ l) (hy:y ∈ l):begins x.f0 y.f0=false:=by
  rw [Bool.eq_false_iff]
  intro hb
  rcases List.getElem_of_mem hx with ⟨i,hi,ei⟩
  rcases List.getElem_of_mem hy with ⟨j,hj,ej⟩
  have hl:=begins_less hb
  rcases Nat.lt_trichotomy i j with hij|hij|hij
  · have := List.pairwise_iff_getElem.1 h.clr i j hi hj hij
    unfold clear at this
    rw [ei,ej,hb] at this
    cases this
  · subst hij
    rw [←ei,ej,less_irrefl] at hl
    cases hl
  · have := List.pairwise_iff_getElem.1 h.asc j i hj hi hij
    unfold ltE at this
    rw [ei,ej] at this
    have:=less_trans _ _ _ hl this
    rw [less_irrefl] at this
    cases this
theorem atF_deep {l:List Entry} (h:Tidy l) {e:Entry} (he:e ∈ l) (hd:deep e.f0=true):atF l (firstB e.f0)=none:=by
  unfold atF
  rw [List.find?_eq_none]
  intro x hx
  simp only [decide_eq_true_eq]
  intro hxe
  have hb:=first_deep hd
  rw [←toL_inj.1 hxe,tidy_over h hx he] at hb
  cases hb
theorem atF_flat {l:List Entry} (h:Tidy l) {e:Entry} (he:e ∈ l) (hd:deep e.f0=false):atF l (firstB e.f0)=some e:=by
  rw [first_flat hd]
  exact atF_some h.asc he
def LineInv (w:Int) (D:List Entry→ByteArray) (l:List Entry) (P:List Entry) (M:List (ByteArray×ByteArray)):Prop :=
  (∀ x,x ∈ M.map (·.1) ↔ x ∈ firsts P)∧(∀ x,x ∈ firsts P→mget (⟨#[]⟩:ByteArray) x M=lineOf w D l x) ∧ ∀ x,x ∉ firsts P→mget (⟨#[]⟩:ByteArray) x M=⟨#[]⟩
theorem lineInv_start (w:Int) (D:List Entry→ByteArray) (l:List Entry):LineInv w D l [] []:=⟨fun x=>Iff.rfl,(fun x h=>by cases h),fun x _=>rfl⟩
theorem lineInv_step {w : Int} {D : List Entry → ByteArray} {D' : ByteArray → ByteArray} {l P : List Entry} {M : List (ByteArray × ByteArray)} {e : Entry} (ht : Tidy l) (he : e ∈ l)
    (hD:D' (firstB e.f0)=D (subL (firstB e.f0) l)) (h:LineInv w D l P M):LineInv w D l (P ++ [e]) (stepD w D' M e):=by
  obtain ⟨h1,h2,h3⟩:=h
  have hf:∀ x,x ∈ firsts (P ++ [e]) ↔ x=firstB e.f0∨x ∈ firsts P:=fun x=>by
    unfold firsts
    rw [List.map_append,List.mem_append,List.map_singleton,List.mem_singleton,or_comm]
  have hput:∀ v,v=lineOf w D l (firstB e.f0)→LineInv w D l (P ++ [e]) (mput (firstB e.f0) v M):=by
    rintro v rfl
    refine ⟨fun x=>by rw [mput_map,hf,h1],fun x hx => ?_,fun x hx => ?_⟩
    · rw [mget_mput]
      by_cases hq:(firstB e.f0).toList=x.toList
      · rw [if_pos hq,toL_inj.1 hq]
      · rw [if_neg hq]
        exact h2 x (((hf x).1 hx).resolve_left (fun q=>hq (by rw [q])))
    · rw [mget_mput, if_neg (fun q => hx ((hf x).2 (.inl (toL_inj.1 q).symm)))]
      exact h3 x (fun q=>hx ((hf x).2 (.inr q)))
  unfold stepD
  by_cases hd:deep e.f0=true
  · rw [if_pos hd]
    have el:lineOf w D l (firstB e.f0)=dirLine w (firstB e.f0) (D' (firstB e.f0)):=by
      unfold lineOf
      rw [atF_deep ht he hd,hD]
    by_cases hm:firstB e.f0 ∈ firsts P
    · have hne : (mget (⟨#[]⟩ : ByteArray) (firstB e.f0) M).toList ≠ [] := by
        rw [h2 _ hm,Lib.toList_data]
        intro q
        have h3:=(lineOf_size w D l (firstB e.f0)).2
        rw [←size_toList,q] at h3
        simp at h3
      rw [if_neg hne]
      refine ⟨fun x=>by rw [h1,hf];exact ⟨.inr,fun q=>q.elim (fun q=>by rw [q];exact hm) id⟩,fun x hx => ?_,fun x hx => ?_⟩
      · exact h2 x (((hf x).1 hx).elim (fun q=>by rw [q];exact hm) id)
      · exact h3 x (fun q=>hx ((hf x).2 (.inr q)))
    · rw [if_pos (by rw [h3 _ hm, Lib.toList_data])]
      exact hput _ el.symm
  · rw [if_neg hd]
    refine hput _ ?_
    unfold lineOf
    rw [atF_flat ht he (Bool.eq_false_iff.2 hd)]
theorem lineInv_text {w:Int} {d:Nat} {l:List Entry} {M:List (ByteArray×ByteArray)} (h:LineInv w (dirT w d) l l M):gather ((keysS (M.map (·.1))).map fun n=>mget (⟨#[]⟩:ByteArray) n M)=dirT w (d+1) l:=by
  obtain ⟨h1,h2,_⟩:=h
  have e:keysS (M.map (·.1))=keysS (firsts l):=ascS_unique _ _ (keysS_asc _) (keysS_asc _) (fun x=>by rw [keysS_mem,keysS_mem,h1])
  unfold dirT
  rw [e]
  congr 1
  refine List.map_congr_left (fun x hx => ?_)
  rw [h2 x ((keysS_mem _ _).1 hx)]
theorem less_same (p:List UInt8):∀ a b:List UInt8,less (p++a) (p++b)=less a b:=by
  intro a b
  induction p with
  | nil=>rfl
  | cons x r ih =>
    simp only [less,Op.bytesLess,List.cons_append] at ih ⊢
    simpa using ih
theorem sub_asc {n:ByteArray} {l:List Entry} (h:l.Pairwise ltE):(subL n l).Pairwise ltE:=by
  unfold subL
  rw [List.pairwise_map]
  refine List.Pairwise.imp_of_mem (fun {a b} ha hb hab => ?_) (h.filter _)
  obtain ⟨s,hs⟩:=(begins_split _ _).1 (List.mem_filter.1 ha).2
  obtain ⟨t,ht⟩:=(begins_split _ _).1 (List.mem_filter.1 hb).2
  unfold ltE at hab ⊢
  unfold subE
  dsimp only
  rw [Lib.toList_data,Lib.toList_data] at hab ⊢
  rw [sub_path hs,sub_path ht]
  rw [hs,ht,less_same] at hab
  rw [←less_same [47] s t]
  exact hab
theorem begins_sub {n:ByteArray} {a b:Entry} (ha:begins n a.f0=true) (hb:begins n b.f0=true):begins (subE n a).f0 (subE n b).f0=begins a.f0 b.f0:=by
  obtain ⟨s,hs⟩:=(begins_split _ _).1 ha
  obtain ⟨t,ht⟩:=(begins_split _ _).1 hb
  rw [Bool.eq_iff_iff,begins_split,begins_split]
  unfold subE
  dsimp only
  rw [sub_path hs,sub_path ht,hs,ht]
  simp
theorem sub_clr {n:ByteArray} {l:List Entry} (h:l.Pairwise clear):(subL n l).Pairwise clear:=by
  unfold subL
  rw [List.pairwise_map]
  refine List.Pairwise.imp_of_mem (fun {a b} ha hb hab => ?_) (h.filter _)
  unfold clear at hab ⊢
  rw [begins_sub (List.mem_filter.1 ha).2 (List.mem_filter.1 hb).2]
  exact hab
/-- Parts of a path: each is there. -/
def whole (l:List UInt8):Prop:=l ≠ []∧(∀ t,l≠47 :: t) ∧ ∀ a t,l=a++47 :: t→t ≠ [] ∧ ∀ u,t≠47 :: u
theorem whole_tail {a t:List UInt8} (h:whole (a++47 :: t)):whole t:=by
  obtain ⟨_,_,h3⟩:=h
  obtain ⟨h4,h5⟩:=h3 a t rfl
  refine ⟨h4,h5,fun b u e=>h3 (a++47 :: b) u (by rw [e,List.append_assoc];rfl)⟩
structure Fit (l:List Entry):Prop where
  asc:l.Pairwise ltE
  clr:l.Pairwise clear
  whole:∀ e ∈ l,whole e.f0.data.toList
theorem Fit.tidy {l:List Entry} (h:Fit l):Tidy l:=⟨h.asc,h.clr,(fun e he n _ hn0 ⟨t,ht⟩=>by
  rw [hn0,List.nil_append] at ht
  exact (h.whole e he).2.1 t ht),(fun e he=>(h.whole e he).1)⟩
theorem Fit.sub {l:List Entry} (h:Fit l) (n:ByteArray):Fit (subL n l):=⟨sub_asc h.asc,sub_clr h.clr,fun x hx=>by
  obtain ⟨e,he,hb,rfl⟩:=sub_mem hx
  obtain ⟨t,ht⟩:=(begins_split _ _).1 hb
  have:=h.whole e he
  rw [ht] at this
  unfold subE
  dsimp only
  rw [sub_path ht]
  exact whole_tail this⟩
theorem first_ne {s:ByteArray} (h:whole s.data.toList):(firstB s).data.toList ≠ []:=by
  unfold firstB
  rw [mkB]
  obtain ⟨h1,h2,_⟩:=h
  intro e
  cases hs:s.data.toList with
  | nil=>exact h1 hs
  | cons b r =>
    rw [hs] at e
    by_cases hb:b=47
    · exact h2 r (by rw [hs,hb])
    · rw [List.takeWhile_cons_of_pos (by simpa using hb)] at e
      cases e
/-- What lies under a directory that is told by its whole path; the empty path is the tree's own. -/
def subT (l:List Entry) (dir:ByteArray):List Entry:=if dir.toList = [] then l else subL dir l
def onto (dir n:ByteArray):ByteArray:=if dir.toList = [] then n else dir++⟨#[47]⟩++n
theorem subL_subL (dir n : ByteArray) (l : List Entry) : subL (dir ++ ⟨#[47]⟩ ++ n) l = subL n (subL dir l) := by
  have hdata:(dir++(⟨#[47]⟩:ByteArray)++n).data.toList=dir.data.toList++47 :: n.data.toList:=by
    rw [data_append,data_append,List.append_assoc]
    rfl
  have hb:∀ e:Entry,begins (dir++⟨#[47]⟩++n) e.f0=(begins dir e.f0&&begins n (subE dir e).f0):=by
    intro e
    rw [Bool.eq_iff_iff,Bool.and_eq_true,begins_split,begins_split,begins_split,hdata]
    constructor
    · rintro ⟨t, ht⟩
      have h1:e.f0.data.toList=dir.data.toList++47 :: (n.data.toList++47 :: t):=by rw [ht];simp
      refine ⟨⟨_,h1⟩,t,?_⟩
      unfold subE
      dsimp only
      rw [sub_path h1]
    · rintro ⟨⟨s, hs⟩, t, ht⟩
      unfold subE at ht
      dsimp only at ht
      rw [sub_path hs] at ht
      exact ⟨t,by rw [hs,ht];simp⟩
  induction l with
  | nil=>rfl
  | cons e r ih =>
    unfold subL at ih ⊢
    rw [List.filter_cons,List.filter_cons,hb]
    by_cases h1:begins dir e.f0=true
    · rw [h1, Bool.true_and, if_pos rfl, List.map_cons, List.filter_cons]
      by_cases h2:begins n (subE dir e).f0=true
      · rw [if_pos h2, if_pos h2, List.map_cons, List.map_cons, ih]
        congr 1
        obtain ⟨s,hs⟩:=(begins_split _ _).1 h1
        obtain ⟨t,ht⟩:=(begins_split _ _).1 h2
        have ht':=ht
        unfold subE at ht'
        dsimp only at ht'
        rw [sub_path hs] at ht'
        have h3:e.f0.data.toList=(dir++(⟨#[47]⟩:ByteArray)++n).data.toList++47 :: t:=by rw [hdata,hs,ht'];simp
        show (⟨_,_,_⟩:Entry)=⟨_,_,_⟩
        congr 1
        apply ba_ext
        rw [sub_path h3,sub_path ht]
      · rw [if_neg h2,if_neg h2,ih]
    · rw [Bool.eq_false_iff.2 h1,Bool.false_and,if_neg (by simp),if_neg (by simp),ih]
theorem subT_onto (l:List Entry) (dir n:ByteArray) (hn:n.toList ≠ []):subT l (onto dir n)=subL n (subT l dir):=by
  unfold subT onto
  by_cases hd:dir.toList = []
  · rw [if_pos hd,if_pos hd,if_neg hn]
  · rw [if_neg hd, if_neg hd, if_neg (by
      rw [Lib.toList_data,data_append,data_append]
      simp)]
    exact subL_subL dir n l
theorem Fit.subT {l:List Entry} (h:Fit l) (dir:ByteArray):Fit (subT l dir):=by
  unfold Pure.subT
  split
  · exact h
  · exact h.sub dir
theorem cuts_whole : ∀ (l cur : List UInt8), (47 : UInt8) ∉ cur → (∀ p ∈ cuts 47 l cur, p ≠ []) → whole (cur ++ l) := by
  intro l
  induction l with
  | nil =>
    intro cur hc h
    rw [List.append_nil]
    have h1:=h cur (by rw [cuts];exact List.mem_singleton_self _)
    exact ⟨h1,fun t e=>hc (by rw [e];exact List.mem_cons_self),fun a t e=>absurd (by rw [e];simp) hc⟩
  | cons b r ih =>
    intro cur hc h
    rw [cuts] at h
    by_cases hb:b=47
    · subst hb
      rw [if_pos rfl] at h
      have h1:=h cur List.mem_cons_self
      have h2:=ih [] (by simp) (fun p hp=>h p (List.mem_cons_of_mem _ hp))
      rw [List.nil_append] at h2
      refine ⟨by simp,fun t e => ?_,fun a t e => ?_⟩
      · cases cur with
        | nil=>exact h1 rfl
        | cons x y =>
          have:x=47:=by
            injection e
          exact hc (by rw [this];exact List.mem_cons_self)
      · by_cases ha : a = cur
        · subst ha
          have:t=r:=by simpa using e.symm
          subst this
          exact ⟨h2.1,h2.2.1⟩
        · rcases List.append_eq_append_iff.1 e with ⟨x, hx1, hx2⟩ | ⟨x, hx1, hx2⟩
          · cases x with
            | nil=>exact absurd (by simpa using hx1) ha
            | cons y z =>
              rw [List.cons_append] at hx2
              injection hx2 with h3 h4
              exact h2.2.2 z t h4
          · cases x with
            | nil=>exact absurd (by simpa using hx1.symm) ha
            | cons y z =>
              rw [List.cons_append] at hx2
              injection hx2 with h3 h4
              exact absurd (by rw [hx1,←h3];simp) hc
    · rw [if_neg hb] at h
      have:=ih (cur ++ [b]) (fun hm=>by
        rcases List.mem_append.1 hm with hm|hm
        · exact hc hm
        · exact hb (List.mem_singleton.1 hm).symm) h
      rwa [List.append_assoc] at this
theorem pathOk_whole {s : ByteArray} {g : Bool} (h : pathOk s g = true) : whole s.data.toList := by
  unfold pathOk at h
  split at h
  · cases h
  · rw [List.all_eq_true] at h
    have:=cuts_whole s.data.toList [] (by simp) (fun p hp e=>by
      have h1:=h (ofBytes p) (by unfold piecesB;exact List.mem_map_of_mem hp)
      unfold partOk at h1
      split at h1
      · rename_i h2
        rw [ofBytes_size,e] at h2
        simp at h2
      · cases h1)
    exact this
theorem entryOk_path {e:Entry} (h:entryOk e=true):pathOk e.f0 false=true∧e.f1.size≤1500:=by
  unfold entryOk at h
  split at h
  · rename_i hp
    exact ⟨hp,by have:=of_decide_eq_true h;omega⟩
  · cases h
theorem treeOk_fit {l:List Entry} (h:treeOk l=true):Fit l:=by
  obtain ⟨_,h2,h3,h4⟩:=(treeOk_iff l).1 h
  exact ⟨h3,h4,fun e he=>pathOk_whole (entryOk_path (h2 e he)).1⟩
theorem slashes_le (e:Entry):slashes e≤e.f0.size:=by
  unfold slashes
  exact List.count_le_length

end Go.Proofs.YthfpoacindblgaaDoor.Pure


namespace Go.Proofs.YthfpoacindblgaaDoor.Pure
open Go Go.RowKit Go.Proofs.YthfpoacindblgaaDoor.P Go.Proofs.YthfpoacindblgaaDoorW.PrintWords Go.Proofs.YthfpoacindblgaaDoorW.PrintLast
set_option linter.unusedVariables false
set_option linter.unusedSimpArgs false

def dirsG (D:Nat→ByteArray) (s:ByteArray):Nat→Nat→List ByteArray
  | 0,_ => []
  | n+1,i=>if bt s (i:Int)=47 then (if (D i).size=0 then [] else D i :: dirsG D s n (i+1)) else dirsG D s n (i+1)
def along (w:Int):List Entry→List ByteArray→List ByteArray
  | _,[] => []
  | X,p :: L=>if L = [] then [] else if (subL p X).length=0 then [] else dirT w 200 (subL p X) :: along w (subL p X) L
theorem gather_from:∀ (L:List ByteArray) (a:ByteArray),L.foldl (· ++ ·) a=a++gather L:=by
  intro L
  induction L with
  | nil =>
    intro a
    exact ba_ext (by rw [data_append];show a.data.toList=a.data.toList ++ [];rw [List.append_nil])
  | cons x r ih =>
    intro a
    have e:gather (x :: r)=x++gather r:=by
      show r.foldl (· ++ ·) ((⟨#[]⟩:ByteArray)++x)=_
      rw [ih]
      refine congrArg (· ++ gather r) ?_
      exact ba_ext (by rw [data_append];rfl)
    rw [e,List.foldl_cons,ih,ByteArray.append_assoc]
theorem gather_more (x:ByteArray) (L:List ByteArray):x.size≤(gather (x :: L)).size:=by
  have e:gather (x :: L)=((⟨#[]⟩:ByteArray)++x)++gather L:=gather_from L _
  rw [e,ByteArray.size_append,ByteArray.size_append]
  omega
/-- A directory's text is empty where nothing lies in it, and there alone. -/
theorem dirT_none (w : Int) (d : Nat) (l : List Entry) : (dirT w (d + 1) l).size = 0 ↔ l.length = 0 := by
  constructor
  · intro h
    cases l with
    | nil=>rfl
    | cons e r =>
      exfalso
      have hm:firstB e.f0 ∈ keysS (firsts (e :: r)):=(keysS_mem _ _).2 (by unfold firsts;exact List.mem_cons_self)
      unfold dirT at h
      cases hk:keysS (firsts (e :: r)) with
      | nil=>rw [hk] at hm;cases hm
      | cons x y =>
        rw [hk,List.map_cons] at h
        have h1:=gather_more (lineOf w (dirT w d) (e :: r) x) (y.map (lineOf w (dirT w d) (e :: r)))
        have h2:=(lineOf_size w (dirT w d) (e :: r) x).2
        omega
  · intro h
    have:l = []:=List.length_eq_zero_iff.1 h
    subst this
    rfl
theorem along_bytes (w : Int) (l : List Entry) (s : ByteArray) : ∀ (r cur Q : List UInt8) (pre : ByteArray) (i : Nat), s.data.toList = Q ++ cur ++ r → i = (Q ++ cur).length →
    ((pre.data.toList = []∧Q = [])∨(pre.data.toList ≠ []∧Q=pre.data.toList ++ [47]))→(∀ p ∈ cuts 47 r cur,p ≠ []) →
    along w (subT l pre) ((cuts 47 r cur).map ofBytes)=dirsG (fun i=>dirT w 200 (subT l (s.extract 0 i))) s r.length i:=by
  intro r
  induction r with
  | nil =>
    intro cur Q pre i _ _ _ _
    rw [cuts]
    show (if ([]:List ByteArray) = [] then [] else _)=_
    rw [if_pos rfl]
    rfl
  | cons b r ih =>
    intro cur Q pre i hs hi hq hne
    have hb:bt s (i:Int)=(b.toNat:Int):=by
      rw [bt_getD,hs,hi,List.getD_eq_getElem?_getD,List.getElem?_append_right (Nat.le_refl _),Nat.sub_self]
      rfl
    rw [cuts] at hne ⊢
    rw [List.length_cons,dirsG,hb]
    by_cases h:b=47
    · subst h
      rw [if_pos rfl] at hne ⊢
      rw [if_pos (by decide)]
      have hc:cur ≠ []:=hne cur List.mem_cons_self
      have hx:s.extract 0 i=onto pre (ofBytes cur):=by
        refine ba_ext ?_
        rw [extract_data,List.drop_zero,hs,hi,List.take_left]
        unfold onto
        rcases hq with ⟨h1,h2⟩|⟨h1,h2⟩
        · rw [if_pos (by rw [Lib.toList_data];exact h1),h2,ofBytes_data,List.nil_append]
        · rw [if_neg (by rw [Lib.toList_data];exact h1),data_append,data_append,h2,ofBytes_data]
      have hsub:subT l (s.extract 0 i)=subL (ofBytes cur) (subT l pre):=by
        rw [hx]
        exact subT_onto l pre (ofBytes cur) (by rw [Lib.toList_data,ofBytes_data];exact hc)
      have hl:(cuts 47 r []).map ofBytes ≠ []:=by
        intro e
        have:=congrArg List.length e
        rw [List.length_map] at this
        have h0:∀ (r cur:List UInt8),cuts 47 r cur ≠ []:=by
          intro r
          induction r with
          | nil=>intro cur;rw [cuts];simp
          | cons x y ih =>
            intro cur
            rw [cuts]
            split
            · simp
            · exact ih _
        exact h0 r [] (List.length_eq_zero_iff.1 this)
      rw [List.map_cons,along,if_neg hl,hsub]
      by_cases hz:(subL (ofBytes cur) (subT l pre)).length=0
      · rw [if_pos hz,if_pos ((dirT_none w 199 _).2 hz)]
      · rw [if_neg hz, if_neg (fun e => hz ((dirT_none w 199 _).1 e))]
        congr 1
        rw [←hsub]
        refine ih [] (Q++cur ++ [47]) (s.extract 0 i) (i+1) (by rw [hs];simp) (by rw [hi];simp;omega) (.inr ⟨?_,?_⟩) (fun p hp=>hne p (List.mem_cons_of_mem _ hp))
        · rw [extract_data, List.drop_zero, hs, hi, List.take_left]
          simp [hc]
        · rw [extract_data,List.drop_zero,hs,hi,List.take_left]
    · rw [if_neg h] at hne ⊢
      rw [if_neg (fun e=>h (UInt8.toNat_inj.1 (by have:(b.toNat:Int)=47:=e;show b.toNat=47;omega)))]
      exact ih (cur ++ [b]) Q pre (i+1) (by rw [hs];simp) (by rw [hi];simp;omega) hq hne
theorem pathOk_pieces {s:ByteArray} {g:Bool} (h:pathOk s g=true):∀ p ∈ piecesB 47 s,partOk p g=true:=by
  unfold pathOk at h
  split at h
  · cases h
  · exact List.all_eq_true.1 h
theorem partOk_size {p:ByteArray} {g:Bool} (h:partOk p g=true):1≤p.size∧p.size≤20:=by
  unfold partOk at h
  split at h
  · omega
  · cases h
theorem along_path (w:Int) (l:List Entry) {s:ByteArray} {g:Bool} (h:pathOk s g=true):along w l (piecesB 47 s)=dirsG (fun i=>dirT w 200 (subT l (s.extract 0 i))) s s.size 0:=by
  have:=along_bytes w l s s.data.toList [] [] (⟨#[]⟩:ByteArray) 0 rfl rfl (.inl ⟨rfl,rfl⟩) (fun p hp e=>by
    have h1:=partOk_size (pathOk_pieces h (ofBytes p) (by unfold piecesB;exact List.mem_map_of_mem hp))
    rw [ofBytes_size,e] at h1
    exact absurd h1.1 (by simp))
  rw [show subT l (⟨#[]⟩:ByteArray)=l from if_pos (by rw [Lib.toList_data])] at this
  exact this
/-- A path's bytes are ASCII. -/
theorem cuts_mem : ∀ (r cur : List UInt8) (b : UInt8), b ∈ r → b = 47 ∨ ∃ p ∈ cuts 47 r cur, b ∈ p := by
  intro r
  induction r with
  | nil=>intro cur b h;cases h
  | cons x y ih =>
    intro cur b h
    rw [cuts]
    by_cases hx:x=47
    · rw [if_pos hx]
      rcases List.mem_cons.1 h with rfl|h
      · exact .inl hx
      · rcases ih [] b h with h | ⟨p, hp, hb⟩
        · exact .inl h
        · exact .inr ⟨p,List.mem_cons_of_mem _ hp,hb⟩
    · rw [if_neg hx]
      rcases List.mem_cons.1 h with rfl|h
      · refine .inr ?_
        have hk:∀ (r cur:List UInt8),b ∈ cur → ∃ p ∈ cuts 47 r cur,b ∈ p:=by
          intro r
          induction r with
          | nil=>intro cur hc;exact ⟨cur,by rw [cuts];exact List.mem_singleton_self _,hc⟩
          | cons u v ih2 =>
            intro cur hc
            rw [cuts]
            split
            · exact ⟨cur,List.mem_cons_self,hc⟩
            · exact ih2 _ (List.mem_append_left _ hc)
        exact hk y (cur ++ [b]) (List.mem_append_right _ (List.mem_singleton_self _))
      · exact ih (cur ++ [x]) b h
theorem pathOk_ascii {s : ByteArray} {g : Bool} (h : pathOk s g = true) : ∀ i, (hi : i < s.size) → (s[i]'hi).toNat < 128 := by
  intro i hi
  have hm:s[i]'hi ∈ s.data.toList:=by
    show s.data[i] ∈ s.data.toList
    exact Array.mem_toList_iff.2 (Array.getElem_mem _)
  rcases cuts_mem s.data.toList [] _ hm with e|⟨p,hp,hb⟩
  · rw [e]
    decide
  · have h1 := pathOk_pieces h (ofBytes p) (by unfold piecesB; exact List.mem_map_of_mem hp)
    unfold partOk at h1
    split at h1
    · split at h1
      · cases h1
      · split at h1
        · cases h1
        · unfold allOk at h1
          rw [List.drop_zero,ofBytes_data] at h1
          have h2:=List.all_eq_true.1 h1 _ hb
          unfold charOk at h2
          split at h2
          · cases h2
          · split at h2
            · cases h2
            · omega
    · cases h1

end Go.Proofs.YthfpoacindblgaaDoor.Pure


namespace Go.Proofs.YthfpoacindblgaaDoor.Pure
open Go Go.RowKit Go.Proofs.YthfpoacindblgaaDoor.P Go.Proofs.YthfpoacindblgaaDoorW.PrintWords Go.Proofs.YthfpoacindblgaaDoorW.PrintLast
set_option linter.unusedVariables false
set_option linter.unusedSimpArgs false

theorem g_eq {l:List Entry} {p:ByteArray} {i:Nat} (hi:i<l.length):impl_find.g l p i=Lib.compareBytes p.toList (l[i].f0.toList):=by
  unfold impl_find.g
  rw [rdE_eq hi,Lib.toList_data,Lib.toList_data]
theorem bs_ev (l : List Entry) (p : ByteArray) (h : treeOk l = true) : ∀ (d i j : Nat), j - i ≤ d → i ≤ j → j ≤ l.length → (∀ x, (hx : x < l.length) → x < i → less (l[x].f0.toList) p.toList = true) → (∀ x, (hx : x < l.length) → j ≤ x → ¬ less (l[x].f0.toList) p.toList = true) →
    ∃ m,Ev (fun k=>impl_find.l0 (impl_find.g l p) k i j) m∧m≤l.length∧(∀ x,(hx:x<l.length)→x<m→less (l[x].f0.toList) p.toList=true)∧(∀ x,(hx:x<l.length)→m≤x → ¬less (l[x].f0.toList) p.toList=true)
  | 0, i, j, hd, hij, hj, h1, h2 => by
    obtain rfl:i=j:=by omega
    exact ⟨i,Ev.step (fun k=>impl_find.l0.eq_2 ..) (Ev.neg (by omega) (Ev.now _)),hj,h1,h2⟩
  | d + 1, i, j, hd, hij, hj, h1, h2 => by
    by_cases e:i<j
    · have hm : (i + j) / 2 < l.length := by omega
      by_cases hg:less (l[(i+j) / 2].f0.toList) p.toList=true
      · obtain ⟨m, a, b⟩ := bs_ev l p h d ((i + j) / 2 + 1) j (by omega) (by omega) hj (fun x hx hlt => by
          rcases Nat.lt_or_ge x ((i+j) / 2) with h'|h'
          · exact less_trans _ _ _ (treeOk_lt h h' hm) hg
          · obtain rfl : x = (i + j) / 2 := by omega
            exact hg) h2
        exact ⟨m,Ev.step (fun k=>impl_find.l0.eq_2 ..) (Ev.pos e (Ev.pos (by rw [g_eq hm];exact cmp_pos.2 hg) a)),b⟩
      · obtain ⟨m, a, b⟩ := bs_ev l p h d i ((i + j) / 2) (by omega) (by omega) (by omega) h1 (fun x hx hge => by
          rcases Nat.eq_or_lt_of_le hge with h'|h'
          · simp only [← h']
            exact hg
          · intro hl
            exact hg (less_trans _ _ _ (treeOk_lt h h' hx) hl))
        exact ⟨m,Ev.step (fun k=>impl_find.l0.eq_2 ..) (Ev.pos e (Ev.neg (by rw [g_eq hm];exact fun hh=>hg (cmp_pos.1 hh)) a)),b⟩
    · exact ⟨i,Ev.step (fun k=>impl_find.l0.eq_2 ..) (Ev.neg e (Ev.now _)),by omega,h1,fun x hx hge=>h2 x hx (by omega)⟩
/-- What find tells of a valid tree: the place of the path, or that it is not there. -/
theorem find_ev (l : List Entry) (p : ByteArray) (h : treeOk l = true) :
    ∃ (m:Nat) (ok:Bool),Ev (fun k=>impl_find.f k l p) ((m:Int),ok)∧(ok=true → ∃ hm:m<l.length,l[m].f0.toList=p.toList)∧(ok=false → ∀ x,(hx:x<l.length)→l[x].f0.toList≠p.toList):=by
  have hl:l.length≤100:=by
    unfold treeOk at h
    split at h
    · cases h
    · omega
  obtain ⟨m,e,hm,h1,h2⟩:=bs_ev l p h l.length 0 l.length (by omega) (by omega) (Nat.le_refl _) (fun x _ hx=>by omega) (fun x hx hge=>by omega)
  refine ⟨m,if m<l.length then (impl_find.g l p m==0) else false,?_,?_,?_⟩
  · unfold impl_find.f
    exact Ev.pos (by omega) (Ev.bind e (Ev.now _))
  · intro ho
    split at ho
    · rename_i hlt
      refine ⟨hlt,?_⟩
      rw [g_eq hlt] at ho
      exact (cmp_zero.1 (beq_iff_eq.1 ho)).symm
    · cases ho
  · intro ho x hx he
    split at ho
    · rename_i hlt
      rw [g_eq hlt] at ho
      have hne:p.toList≠l[m].f0.toList:=fun ee=>(beq_eq_false_iff_ne.1 ho) (cmp_zero.2 ee)
      rcases Nat.lt_trichotomy x m with h'|h'|h'
      · have := h1 x hx h'
        rw [he,less_irrefl] at this
        cases this
      · subst h'
        exact hne he.symm
      · have h3 := treeOk_lt h h' hx
        rw [he] at h3
        exact h2 m hlt (Nat.le_refl _) h3
    · have := h1 x hx (by omega)
      rw [he,less_irrefl] at this
      cases this

end Go.Proofs.YthfpoacindblgaaDoor.Pure


namespace Go.Proofs.YthfpoacindblgaaDoor.Pure
open Go Go.RowKit Go.Proofs.YthfpoacindblgaaDoor.P Go.Proofs.YthfpoacindblgaaDoorW.PrintWords Go.Proofs.YthfpoacindblgaaDoorW.PrintLast
set_option linter.unusedVariables false
set_option linter.unusedSimpArgs false

abbrev LEntry:=S61
def ofE (a:LEntry):Entry:=⟨a.f0,a.f1,a.f2⟩

theorem rdLE_eq {l:List LEntry} {i:Nat} (h:i<l.length):rd_T61 l (i:Int)=l[i]:=getD_nat _ h

theorem szEntry_eq (a b:ByteArray) (r:Bool) (c:Int) (ha:a.size≤140737488351232) (hb:b.size≤140737488351232) (h0:0≤c) (h1:c≤1048576) :
    laws_szEntry.f a b r c=some (if c - (a.size:Int)<0 then -1 else if c - (a.size:Int) - (b.size:Int)<0 then -1 else c - (a.size:Int) - (b.size:Int)):=by
  unfold laws_szEntry.f
  rw [w64 (n:=c - (a.size:Int)) (by omega) (by omega),w64 (n:=c - (a.size:Int) - (b.size:Int)) (by omega) (by omega)]
  split
  · rfl
  · split <;> rfl
/-- What szEntryS tells: no room, or what is left, and that all is small. -/
def RoomE (l:List LEntry) (left r:Int):Prop:=r = -1∨(0≤r∧r≤left∧(l.length:Int)≤left ∧ ∀ s ∈ l,(s.f0.size:Int)≤left∧(s.f1.size:Int)≤left)
theorem szE_l0 (l : List LEntry) (hl : l.length ≤ 8796093022208) (hz : ∀ s ∈ l, s.f0.size ≤ 140737488351232 ∧ s.f1.size ≤ 140737488351232) (left : Int) (h1 : left ≤ 1048576) : ∀ (d i : Nat) (c : Int), i + d = l.length → 0 ≤ c → c ≤ left → (∀ j, (h : j < l.length) → j < i → (l[j].f0.size : Int) ≤ left ∧ (l[j].f1.size : Int) ≤ left) →
    ∃ r,Ev (fun k=>laws_szEntryS.l0 k l c (i:Int)) r∧(r = -1∨(0≤r∧r≤left ∧ ∀ s ∈ l,(s.f0.size:Int)≤left∧(s.f1.size:Int)≤left))
  | 0, i, c, hd, h0, hc, ha => by
    refine ⟨c,Ev.step (fun k=>laws_szEntryS.l0.eq_2 ..) (Ev.neg (by omega) (Ev.now _)),.inr ⟨h0,hc,fun s hs => ?_⟩⟩
    obtain ⟨j,hj,rfl⟩:=List.getElem_of_mem hs
    exact ha j hj (by omega)
  | d + 1, i, c, hd, h0, hc, ha => by
    have hi:i<l.length:=by omega
    obtain ⟨hs0,hs1⟩:=hz l[i] (List.getElem_mem hi)
    have e:=szEntry_eq l[i].f0 l[i].f1 l[i].f2 c hs0 hs1 h0 (by omega)
    by_cases hn:c - (l[i].f0.size:Int)<0∨c - (l[i].f0.size:Int) - (l[i].f1.size:Int)<0
    · refine ⟨-1, Ev.step (fun k => laws_szEntryS.l0.eq_2 ..) (Ev.pos (by omega) (Ev.pos (by omega) ?_)), .inl rfl⟩
      have e2:laws_szEntry.f l[i].f0 l[i].f1 l[i].f2 c=some (-1):=by
        rw [e]
        split
        · rfl
        · rw [if_pos (by omega)]
      rw [rdLE_eq hi,e2]
      exact Ev.sb (Ev.pos (by omega) (Ev.now _))
    · obtain ⟨r, hr, h⟩ := szE_l0 l hl hz left h1 d (i + 1) (c - (l[i].f0.size : Int) - (l[i].f1.size : Int)) (by omega) (by omega) (by omega) (fun j h hj => by
        rcases Nat.lt_or_ge j i with h'|h'
        · exact ha j h h'
        · obtain rfl : j = i := by omega
          omega)
      refine ⟨r,Ev.step (fun k=>laws_szEntryS.l0.eq_2 ..) (Ev.pos (by omega) (Ev.pos (by omega) ?_)),h⟩
      rw [rdLE_eq hi,e,if_neg (by omega),if_neg (by omega),w64 (n:=(i:Int)+1) (by omega) (by omega)]
      exact Ev.sb (Ev.neg (by omega) hr)
theorem szTree_ev (l:List LEntry) (hl:l.length≤8796093022208) (hz:∀ s ∈ l,s.f0.size≤140737488351232∧s.f1.size≤140737488351232) (left:Int) (h0:0≤left) (h1:left≤1048576) :
    ∃ r,Ev (fun k=>laws_szTree.f k l left) r∧RoomE l left r:=by
  unfold laws_szTree.f laws_szEntryS.f RoomE
  rw [w64 (n:=left - (l.length:Int)) (by omega) (by omega)]
  by_cases hn:left - (l.length:Int)<0
  · exact ⟨-1,Ev.bind (Ev.pos hn (Ev.now _)) (Ev.pos (by omega) (Ev.now _)),.inl rfl⟩
  · obtain ⟨r, hr, h⟩ := szE_l0 l hl hz left h1 l.length 0 (left - (l.length : Int)) (by omega) (by omega) (by omega) (fun j h hj => by omega)
    rcases h with h|⟨a,b,c⟩
    · exact ⟨-1,Ev.bind (Ev.neg hn hr) (Ev.pos (by omega) (Ev.now _)),.inl rfl⟩
    · exact ⟨r,Ev.bind (Ev.neg hn hr) (Ev.neg (by omega) (Ev.now _)),.inr ⟨a,b,by omega,c⟩⟩
theorem toE_l0 (l:List LEntry) (hl:l.length≤8796093022208):∀ (d i:Nat) (o:List Entry),i+d=l.length→o.length=l.length→o.take i=(l.map ofE).take i →
    Ev (fun k=>laws_toEntryS.l0 k l o (i:Int)) (l.map ofE)
  | 0, i, o, hd, ho, ha => by
    rw [List.take_of_length_le (by omega),List.take_of_length_le (by rw [List.length_map];omega)] at ha
    exact Ev.step (fun k=>laws_toEntryS.l0.eq_2 ..) (Ev.neg (by omega) (by rw [ha];exact Ev.now _))
  | d + 1, i, o, hd, ho, ha => by
    have hi:i<l.length:=by omega
    refine Ev.step (fun k=>laws_toEntryS.l0.eq_2 ..) (Ev.pos (by omega) (Ev.pos (by omega) ?_))
    rw [rdLE_eq hi,laws_toEntry.f,w64 (n:=(i:Int)+1) (by omega) (by omega),Int.toNat_natCast]
    refine Ev.sb (Ev.pos (by omega) (toE_l0 l hl d (i+1) (o.set i (ofE l[i])) (by omega) (by rw [List.length_set,ho]) ?_))
    rw [List.take_succ_eq_append_getElem (by rw [List.length_set];omega),List.take_succ_eq_append_getElem (by rw [List.length_map];omega),List.getElem_set_self,List.getElem_map,List.take_set_of_le (by omega),ha]
theorem toTree_ev (l:List LEntry) (hl:l.length≤3518437208883):Ev (fun k=>laws_toTree.f k l) (l.map ofE):=by
  unfold laws_toTree.f laws_toEntryS.f
  refine Ev.bind (Ev.pos (by omega) (Ev.pos (by omega) ?_)) (Ev.now _)
  rw [Int.toNat_natCast]
  exact toE_l0 l (by omega) l.length 0 _ (by omega) (by simp) (by simp)
theorem eqE_l0 (l:List Entry) (hl:l.length≤8796093022208):∀ (d i:Nat),i+d=l.length→Ev (fun k=>laws_eqEntryS.l0 k l l (i:Int)) true
  | 0,i,hd=>Ev.step (fun k=>laws_eqEntryS.l0.eq_2 ..) (Ev.neg (by omega) (Ev.now _))
  | d + 1, i, hd => by
    refine Ev.step (fun k=>laws_eqEntryS.l0.eq_2 ..) (Ev.pos (by omega) (Ev.pos (by omega) (Ev.pos (by omega) ?_)))
    rw [laws_eqEntry.f,if_pos rfl,if_pos rfl,if_neg (by simp),w64 (n:=(i:Int)+1) (by omega) (by omega)]
    exact Ev.sb (Ev.pos rfl (eqE_l0 l hl d (i+1) (by omega)))
theorem eqTree_ev (l:List Entry) (hl:l.length≤8796093022208):Ev (fun k=>laws_eqTree.f k l l) true:=by
  unfold laws_eqTree.f laws_eqEntryS.f
  exact Ev.bind (Ev.pos rfl (eqE_l0 l hl l.length 0 (by omega))) (Ev.pos rfl (Ev.now _))

end Go.Proofs.YthfpoacindblgaaDoor.Pure


namespace Go.Proofs.YthfpoacindblgaaDoor.Pure
open Go Go.RowKit Go.Proofs.YthfpoacindblgaaDoor.P Go.Proofs.YthfpoacindblgaaDoorW.PrintWords Go.Proofs.YthfpoacindblgaaDoorW.PrintLast
set_option linter.unusedVariables false
set_option linter.unusedSimpArgs false

theorem rdN_eq {l:List ByteArray} {i:Nat} (h:i<l.length):rdOf ByteArray.empty l (i:Int)=l[i]:=by
  unfold rdOf
  rw [Int.toNat_natCast,List.getD_eq_getElem?_getD,List.getElem?_eq_getElem h]
  rfl
def notS (s y:ByteArray):Bool:=!decide (y.toList=s.toList)
def nameR (s:ByteArray):List ByteArray→List ByteArray
  | [] => [s]
  | y :: r=>if less y.toList s.toList=true then y :: nameR s r else s :: (y :: r).filter (notS s)
theorem name_done (l:List ByteArray) (hl:l.length≤1000) (s:ByteArray):∀ (d i:Nat) (acc:List ByteArray),i+d=l.length→acc.length≤i+1→Ev (fun k=>spec_l6Name.l0 k l s acc true (i:Int)) (acc++(l.drop i).filter (notS s))
  | 0, i, acc, hd, ha => by
    rw [List.drop_of_length_le (by omega),List.filter_nil,List.append_nil]
    exact Ev.step (fun k=>spec_l6Name.l0.eq_2 ..) (Ev.neg (by omega) (Ev.pos rfl (Ev.now _)))
  | d + 1, i, acc, hd, ha => by
    have hi:i<l.length:=by omega
    refine Ev.step (fun k=>spec_l6Name.l0.eq_2 ..) (Ev.pos (by omega) (Ev.pos rfl (Ev.step (fun k=>spec_l6Name.j1.eq_2 ..) (Ev.neg (by simp) (Ev.pos (by omega) (Ev.pos (by omega) ?_))))))
    rw [rdN_eq hi,w64 (n:=(i:Int)+1) (by omega) (by omega),show (i:Int)+1=((i+1:Nat):Int) from by omega,List.drop_eq_getElem_cons hi,List.filter_cons]
    by_cases h:l[i].toList=s.toList
    · rw [show notS s l[i] = false from by unfold notS; rw [decide_eq_true h]; rfl, if_neg (by simp)]
      exact Ev.pos h (name_done l hl s d (i+1) acc (by omega) (by omega))
    · rw [show notS s l[i] = true from by unfold notS; rw [decide_eq_false h]; rfl, if_pos rfl]
      refine Ev.neg h (Ev.pos (by omega) ?_)
      have:=name_done l hl s d (i+1) (acc ++ [l[i]]) (by omega) (by rw [List.length_append,List.length_singleton];omega)
      rw [List.append_assoc] at this
      exact this
theorem name_open (l : List ByteArray) (hl : l.length ≤ 1000) (s : ByteArray) : ∀ (d i : Nat) (acc : List ByteArray), i + d = l.length → acc.length ≤ i → Ev (fun k => spec_l6Name.l0 k l s acc false (i : Int)) (acc ++ nameR s (l.drop i))
  | 0, i, acc, hd, ha => by
    rw [List.drop_of_length_le (by omega)]
    exact Ev.step (fun k=>spec_l6Name.l0.eq_2 ..) (Ev.neg (by omega) (Ev.neg (by simp) (Ev.pos (by omega) (Ev.now _))))
  | d + 1, i, acc, hd, ha => by
    have hi:i<l.length:=by omega
    refine Ev.step (fun k=>spec_l6Name.l0.eq_2 ..) (Ev.pos (by omega) (Ev.neg (by simp) (Ev.pos (by omega) (Ev.step (fun k=>spec_l6Name.j1.eq_2 ..) ?_))))
    rw [rdN_eq hi,List.drop_eq_getElem_cons hi,nameR]
    by_cases hlt:less l[i].toList s.toList=true
    · rw [if_pos hlt]
      have hne:¬ l[i].toList=s.toList:=fun e=>by
        rw [e,less_irrefl] at hlt
        cases hlt
      rw [w64 (n:=(i:Int)+1) (by omega) (by omega),show (i:Int)+1=((i+1:Nat):Int) from by omega]
      refine Ev.neg (by rw [show Op.bytesLess l[i].toList s.toList=true from hlt];simp) (Ev.pos (by omega) (Ev.pos (by omega) (Ev.neg hne (Ev.pos (by omega) ?_))))
      have:=name_open l hl s d (i+1) (acc ++ [l[i]]) (by omega) (by rw [List.length_append,List.length_singleton];omega)
      rw [List.append_assoc] at this
      exact this
    · rw [if_neg hlt]
      refine Ev.pos (by rw [show Op.bytesLess l[i].toList s.toList=false from Bool.eq_false_iff.2 hlt];rfl) (Ev.pos (by omega) (Ev.sb (Ev.pos (by omega) (Ev.pos (by omega) ?_))))
      rw [w64 (n:=(i:Int)+1) (by omega) (by omega),show (i:Int)+1=((i+1:Nat):Int) from by omega,List.filter_cons]
      by_cases h:l[i].toList=s.toList
      · rw [show notS s l[i] = false from by unfold notS; rw [decide_eq_true h]; rfl, if_neg (by simp)]
        have:=name_done l hl s d (i+1) (acc ++ [s]) (by omega) (by rw [List.length_append,List.length_singleton];omega)
        rw [List.append_assoc] at this
        exact Ev.pos h this
      · rw [show notS s l[i] = true from by unfold notS; rw [decide_eq_false h]; rfl, if_pos rfl]
        have:=name_done l hl s d (i+1) (acc ++ [s] ++ [l[i]]) (by omega) (by rw [List.length_append,List.length_append,List.length_singleton,List.length_singleton];omega)
        rw [show acc ++ [s] ++ [l[i]]++(l.drop (i+1)).filter (notS s)=acc++s :: l[i] :: (l.drop (i+1)).filter (notS s) from by simp] at this
        exact Ev.neg h (Ev.pos (by rw [List.length_append,List.length_singleton];omega) this)
theorem name_ins (s : ByteArray) : ∀ l : List ByteArray, l.Pairwise ltS → nameR s l = insS s l
  | [],_=>rfl
  | y :: r, h => by
    obtain ⟨h1,h2⟩:=List.pairwise_cons.1 h
    unfold nameR insS
    by_cases hlt:less y.toList s.toList=true
    · rw [if_pos hlt,if_neg (fun e=>by rw [e,less_irrefl] at hlt;cases hlt),if_neg (fun h'=>by
        have:=less_trans _ _ _ hlt h'
        rw [less_irrefl] at this
        cases this),name_ins s r h2]
    · rw [if_neg hlt]
      have far:∀ x ∈ r,x.toList≠s.toList:=fun x hx e=>by
        have:=h1 x hx
        unfold ltS at this
        rw [e] at this
        exact hlt this
      have hr:r.filter (notS s)=r:=List.filter_eq_self.2 (fun x hx=>by unfold notS;rw [decide_eq_false (far x hx)];rfl)
      rw [List.filter_cons,hr]
      by_cases he:y.toList=s.toList
      · rw [if_pos he,show notS s y=false from by unfold notS;rw [decide_eq_true he];rfl,if_neg (by simp),str_eq he]
      · rw [if_neg he,show notS s y=true from by unfold notS;rw [decide_eq_false he];rfl,if_pos rfl,if_pos (less_or (Bool.eq_false_iff.2 hlt) he)]
theorem name_ev (l:List ByteArray) (hl:l.length≤1000) (h:l.Pairwise ltS) (s:ByteArray):Ev (fun k=>spec_l6Name.f k l s) (insS s l):=by
  have:=name_open l hl s l.length 0 [] (by omega) (by simp)
  rw [List.drop_zero,List.nil_append,name_ins s l h] at this
  exact this

end Go.Proofs.YthfpoacindblgaaDoor.Pure


namespace Go.Proofs.YthfpoacindblgaaDoor.Pure
open Go Go.RowKit Go.Proofs.YthfpoacindblgaaDoor.P Go.Proofs.YthfpoacindblgaaDoorW.PrintWords Go.Proofs.YthfpoacindblgaaDoorW.PrintLast
set_option linter.unusedVariables false
set_option linter.unusedSimpArgs false

def TAB:ByteArray:=⟨#[48,49,50,51,52,53,54,55,56,57,97,98,99,100,101,102]⟩
theorem tab_bt (d:Nat):bt TAB (d:Int)=((Lib.Hx.digit d).toNat:Int):=by
  rw [bt_getD]
  unfold Lib.Hx.digit
  rw [List.getD_eq_getElem?_getD]
  rfl
theorem dig_nat (d:Nat):UInt8.ofNat (bt TAB (d:Int)).toNat=Lib.Hx.digit d:=by
  rw [tab_bt]
  simp
theorem hex_l0 (s:ByteArray) (hs:s.size≤1000000):∀ (d i:Nat) (acc:List Int),i+d=s.size→acc.length≤2*i→Ev (fun k=>spec_l9Hex.l0 k s TAB acc (i:Int)) (strOfNums acc++⟨(Lib.Hx.encode (s.data.toList.drop i)).toArray⟩)
  | 0, i, acc, hd, ha => by
    rw [List.drop_of_length_le (by rw [size_toList];omega)]
    refine Ev.step (fun k=>spec_l9Hex.l0.eq_2 ..) (Ev.neg (by omega) ?_)
    rw [show (⟨(Lib.Hx.encode []).toArray⟩:ByteArray)=⟨#[]⟩ from rfl,ba_append_empty]
    exact Ev.now _
  | d + 1, i, acc, hd, ha => by
    have hi:i<s.data.toList.length:=by rw [size_toList];omega
    have hb:bt s (i:Int)=((s.data.toList[i]).toNat:Int):=by
      rw [bt_getD,List.getD_eq_getElem?_getD,List.getElem?_eq_getElem hi]
      rfl
    have hlt:=(s.data.toList[i]).toNat_lt
    generalize hx:(s.data.toList[i]).toNat=x at hb hlt
    have ih:=hex_l0 s hs d (i+1) (acc ++ [bt TAB ((x / 16:Nat):Int),bt TAB ((x % 16:Nat):Int)]) (by omega) (by rw [List.length_append];simp;omega)
    have e1:Int.tdiv (bt s (i:Int)) 16 % 256=((x / 16:Nat):Int):=by rw [hb,Int.tdiv_eq_ediv_of_nonneg (by omega)];omega
    have e2:Int.tmod (bt s (i:Int)) 16=((x % 16:Nat):Int):=by rw [hb,Int.tmod_eq_emod_of_nonneg (by omega)];omega
    have ht:(TAB.size:Int)=16:=rfl
    refine Ev.step (fun k=>spec_l9Hex.l0.eq_2 ..) (Ev.pos (by omega) (Ev.pos (by omega) ?_))
    rw [e1,e2,ht]
    refine Ev.pos (by omega) (Ev.pos (by omega) (Ev.pos (by omega) (Ev.pos (by omega) (Ev.sb (Ev.pos (by simp only [List.length_cons,List.length_nil];omega) ?_)))))
    rw [w64 (n:=(i:Int)+1) (by omega) (by omega),show (i:Int)+1=((i+1:Nat):Int) from by omega]
    have e:strOfNums acc++(⟨(Lib.Hx.encode (s.data.toList.drop i)).toArray⟩:ByteArray)=strOfNums (acc ++ [bt TAB ((x / 16:Nat):Int),bt TAB ((x % 16:Nat):Int)])++⟨(Lib.Hx.encode (s.data.toList.drop (i+1))).toArray⟩:=by
      apply ba_ext
      rw [data_append,data_append,son_append,data_append,mkB,mkB,List.append_assoc,List.drop_eq_getElem_cons hi,Lib.Hx.encode_cons,hx]
      congr 1
      rw [son_data]
      simp only [List.map_cons,List.map_nil,dig_nat]
      rfl
    rw [e]
    exact ih
theorem hex_ev (s:ByteArray) (hs:s.size≤1000000):Ev (fun k=>spec_l9Hex.f k s) (hexB s):=by
  unfold spec_l9Hex.f
  have:=hex_l0 s hs s.size 0 [] (by omega) (by simp)
  have e:strOfNums []++(⟨(Lib.Hx.encode (s.data.toList.drop 0)).toArray⟩:ByteArray)=hexB s:=by
    rw [List.drop_zero]
    exact ba_empty_append _
  rw [e] at this
  exact this
theorem under9_l0 (l : List Entry) (hl : l.length ≤ 100) (n : ByteArray) (hn : n.size ≤ 1000000) : ∀ (d i : Nat) (acc : List Entry), i + d = l.length → acc.length ≤ i → Ev (fun k => spec_l9Under.l0 k n (i : Int) l acc) (acc ++ subL n (l.drop i))
  | 0, i, acc, hd, ha => by
    rw [List.drop_of_length_le (by omega)]
    refine Ev.step (fun k=>spec_l9Under.l0.eq_2 ..) (Ev.neg (by omega) ?_)
    show Ev _ (acc ++ [])
    rw [List.append_nil]
    exact Ev.now _
  | d + 1, i, acc, hd, ha => by
    have hi:i<l.length:=by omega
    refine Ev.step (fun k=>spec_l9Under.l0.eq_2 ..) (Ev.pos (by omega) (Ev.pos (by omega) ?_))
    rw [rdE_eq hi,spec_begins_eq,w64 (n:=(n.size:Int)+1) (by omega) (by omega),w64 (n:=(i:Int)+1) (by omega) (by omega),List.drop_eq_getElem_cons hi]
    refine Ev.sb ?_
    by_cases h:begins n l[i].f0=true
    · have hs := ((begins_iff _ _).1 h).1
      have e:subL n (l[i] :: l.drop (i+1))=subE n l[i] :: subL n (l.drop (i+1)):=by
        unfold subL
        rw [List.filter_cons_of_pos (by exact h),List.map_cons]
      rw [e,show acc++subE n l[i] :: subL n (l.drop (i+1))=(acc ++ [subE n l[i]])++subL n (l.drop (i+1)) from List.append_cons ..]
      refine Ev.pos h (Ev.pos (by omega) (Ev.pos (by omega) (Ev.pos (by omega) ?_)))
      exact under9_l0 l hl n hn d (i+1) (acc ++ [subE n l[i]]) (by omega) (by rw [List.length_append,List.length_singleton];omega)
    · have e : subL n (l[i] :: l.drop (i + 1)) = subL n (l.drop (i + 1)) := by
        unfold subL
        rw [List.filter_cons_of_neg (by exact h)]
      rw [e]
      exact Ev.neg h (under9_l0 l hl n hn d (i+1) acc (by omega) (by omega))
theorem under9_ev (l:List Entry) (hl:l.length≤100) (n:ByteArray) (hn:n.size≤1000000):Ev (fun k=>spec_l9Under.f k l n) (subL n l):=by
  have:=under9_l0 l hl n hn l.length 0 [] (by omega) (by simp)
  rw [List.drop_zero,List.nil_append] at this
  exact this
def atT (o:Option Entry):Bool×ByteArray×Bool:=match o with
  | some e=>(true,e.f1,e.f2)
  | none=>(false,⟨#[]⟩,false)
theorem at9_l0 (n : ByteArray) (l : List Entry) (hl : l.length ≤ 100) : ∀ (d i : Nat), i + d = l.length → Ev (fun k => spec_l6At.l0 k n (i : Int) l) (atT (atF (l.drop i) n))
  | 0, i, hd => by
    rw [List.drop_of_length_le (by omega)]
    exact Ev.step (fun k=>spec_l6At.l0.eq_2 ..) (Ev.neg (by omega) (Ev.now _))
  | d + 1, i, hd => by
    have hi:i<l.length:=by omega
    refine Ev.step (fun k=>spec_l6At.l0.eq_2 ..) (Ev.pos (by omega) (Ev.pos (by omega) ?_))
    rw [rdE_eq hi,w64 (n:=(i:Int)+1) (by omega) (by omega),show (i:Int)+1=((i+1:Nat):Int) from by omega,List.drop_eq_getElem_cons hi]
    by_cases h:l[i].f0.toList=n.toList
    · have e : atF (l[i] :: l.drop (i + 1)) n = some l[i] := by
        unfold atF
        rw [List.find?_cons,decide_eq_true h]
      rw [e]
      exact Ev.pos h (Ev.now _)
    · have e : atF (l[i] :: l.drop (i + 1)) n = atF (l.drop (i + 1)) n := by
        unfold atF
        rw [List.find?_cons,decide_eq_false h]
      rw [e]
      exact Ev.neg h (at9_l0 n l hl d (i+1) (by omega))
theorem at9_ev (n:ByteArray) (l:List Entry) (hl:l.length≤100):Ev (fun k=>spec_l6At.f k l n) (atT (atF l n)):=by
  have:=at9_l0 n l hl l.length 0 (by omega)
  rw [List.drop_zero] at this
  exact this
theorem cuts_first:∀ (l cur:List UInt8),∃ L,cuts 47 l cur=(cur++l.takeWhile (· != 47)) :: L
  | [],cur=>⟨[],by rw [cuts];simp⟩
  | b :: r, cur => by
    by_cases hb:b=47
    · subst hb
      refine ⟨cuts 47 r [],?_⟩
      rw [cuts,if_pos rfl]
      simp
    · obtain ⟨L, h⟩ := cuts_first r (cur ++ [b])
      refine ⟨L,?_⟩
      rw [cuts,if_neg hb,h,List.takeWhile_cons_of_pos (by simpa using hb),List.append_assoc]
      rfl
theorem pieces_first (s:ByteArray):0<(piecesB 47 s).length∧rdOf ByteArray.empty (piecesB 47 s) 0=firstB s:=by
  obtain ⟨L,h⟩:=cuts_first s.data.toList []
  unfold piecesB
  rw [h]
  exact ⟨by simp,rfl⟩
theorem sum_ev (s:ByteArray) (w:Int) (hs:s.size≤1000000):Ev (fun k=>spec_Sum.f k s w) (sumOf s w):=ev_of (s.size+10) (fun k hk=>spec_Sum_eq s (by omega) w k (by omega))
theorem names_l0 (l:List Entry) (hl:l.length≤100) (hz:∀ e ∈ l,e.f0.size≤126) (w:Int) (R:ByteArray) (hR:∀ names,names=keysS (firsts l)→Ev (fun k=>spec_l9Dir.l1 k w names [] 0 l) R):∀ (d i:Nat) (names:List ByteArray),i+d=l.length→names=(firsts (l.take i)).foldl (fun acc k=>insS k acc) []→Ev (fun k=>spec_l9Dir.l0 k w names (i:Int) l) R
  | 0, i, names, hd, hn => by
    rw [List.take_of_length_le (by omega)] at hn
    exact Ev.step (fun k=>spec_l9Dir.l0.eq_2 ..) (Ev.neg (by omega) (hR names hn))
  | d + 1, i, names, hd, hn => by
    have hi:i<l.length:=by omega
    have hp:=pieces_first l[i].f0
    have hasc:names.Pairwise ltS:=by rw [hn];exact (keysS_fold _ [] List.Pairwise.nil).1
    have hlen:names.length≤1000:=by
      rw [hn]
      have h1:=keysS_len_fold (firsts (l.take i)) []
      unfold firsts at h1 ⊢
      rw [List.length_map,List.length_take] at h1
      simp only [List.length_nil] at h1
      omega
    refine Ev.step (fun k=>spec_l9Dir.l0.eq_2 ..) (Ev.pos (by omega) (Ev.pos (by omega) ?_))
    rw [rdE_eq hi]
    refine Ev.bind (spec_parts_ev _ (by have:=hz _ (List.getElem_mem hi);omega)) (Ev.pos (by omega) ?_)
    rw [hp.2]
    refine Ev.bind (name_ev names hlen hasc (firstB l[i].f0)) ?_
    rw [w64 (n:=(i:Int)+1) (by omega) (by omega),show (i:Int)+1=((i+1:Nat):Int) from by omega]
    refine names_l0 l hl hz w R hR d (i+1) _ (by omega) ?_
    unfold firsts at hn ⊢
    rw [List.take_succ_eq_append_getElem hi,List.map_append,List.foldl_append,←hn]
    rfl
theorem son_next (acc:List Int) (x:ByteArray) (t:ByteArray):strOfNums (acc++bytesOf x ++ [10])++t=strOfNums acc++(x++(⟨#[10]⟩:ByteArray)++t):=by
  rw [son_append,son_append,son_bytesOf,show strOfNums [10]=(⟨#[10]⟩:ByteArray) from rfl,ba_assoc,ba_assoc,ba_assoc]
theorem gather_cons (x:ByteArray) (L:List ByteArray):gather (x :: L)=x++gather L:=by
  have h:∀ (L:List ByteArray) (a:ByteArray),L.foldl (· ++ ·) a=a++gather L:=by
    intro L
    induction L with
    | nil=>exact fun a=>(ba_append_empty a).symm
    | cons y r ih =>
      intro a
      unfold gather
      rw [List.foldl_cons,List.foldl_cons,ih (a++y),ih (⟨#[]⟩++y),ba_empty_append,ba_assoc]
  unfold gather
  rw [List.foldl_cons,h,ba_empty_append]
  rfl
theorem x_line (n h:ByteArray):(⟨#[120]⟩:ByteArray)++(((⟨#[102,32]⟩:ByteArray)++n++(⟨#[32]⟩:ByteArray)++h).extract 1 ((⟨#[102,32]⟩:ByteArray)++n++(⟨#[32]⟩:ByteArray)++h).size)=(⟨#[120,32]⟩:ByteArray)++n++(⟨#[32]⟩:ByteArray)++h:=by
  apply ba_ext
  rw [data_append,ByteArray.data_extract,Array.toList_extract,List.extract_eq_take_drop]
  have e:((⟨#[102,32]⟩:ByteArray)++n++(⟨#[32]⟩:ByteArray)++h).data.toList=102 :: 32 :: (n.data.toList++([32]++h.data.toList)):=by
    simp only [data_append,List.append_assoc]
    rfl
  rw [List.take_of_length_le (by rw [List.length_drop,size_toList];exact Nat.le_refl _),e]
  simp only [data_append,List.append_assoc]
  rfl
theorem text_l1 (w : Int) (l : List Entry) (hl : l.length ≤ 100) (hz : ∀ e ∈ l, e.f0.size ≤ 126 ∧ e.f1.size ≤ 1500) (D : List Entry → ByteArray) (hD : ∀ n, n.size ≤ 126 → Ev (fun k => spec_l9Dir.f k (subL n l) w) (D (subL n l)) ∧ (D (subL n l)).size ≤ 20000) (ks : List ByteArray) (hk : ks.length ≤ 100) (hkz : ∀ n ∈ ks, n.size ≤ 126) : ∀ (d i : Nat) (acc : List Int), i + d = ks.length → acc.length ≤ i * 200 →
    Ev (fun k=>spec_l9Dir.l1 k w ks acc (i:Int) l) (strOfNums acc++gather ((ks.drop i).map (lineOf w D l)))
  | 0, i, acc, hd, ha => by
    rw [List.drop_of_length_le (by omega)]
    refine Ev.step (fun k=>spec_l9Dir.l1.eq_2 ..) (Ev.neg (by omega) ?_)
    rw [show gather (([]:List ByteArray).map (lineOf w D l))=⟨#[]⟩ from rfl,ba_append_empty]
    exact Ev.now _
  | d + 1, i, acc, hd, ha => by
    have hi:i<ks.length:=by omega
    have hn:=hkz _ (List.getElem_mem hi)
    obtain ⟨d1,d2⟩:=hD ks[i] hn
    have hs1:=sumOf_size (D (subL ks[i] l)) w
    have hh1:=hexB_size (sumOf (D (subL ks[i] l)) w)
    have ha':acc.length≤20000:=by
      have:i*200≤100*200:=Nat.mul_le_mul_right _ (by omega)
      omega
    have ha2:acc.length+200≤(i+1)*200:=by rw [Nat.add_mul];omega
    have ih:=fun acc' h=>text_l1 w l hl hz D hD ks hk hkz d (i+1) acc' (by omega) h
    rw [List.drop_eq_getElem_cons hi,List.map_cons,gather_cons]
    refine Ev.step (fun k=>spec_l9Dir.l1.eq_2 ..) (Ev.pos (by omega) (Ev.pos (by omega) ?_))
    rw [rd_eq _ hi]
    refine Ev.bind (at9_ev ks[i] l hl) ?_
    generalize hen:ks[i]=n at hn d1 d2 hs1 hh1 ih
    have e1:((⟨#[100,32]⟩:ByteArray)++n).size=2+n.size:=ByteArray.size_append
    have e2:((⟨#[100,32]⟩:ByteArray)++n++(⟨#[32]⟩:ByteArray)).size=2+n.size+1:=by rw [ByteArray.size_append,e1];rfl
    have e3:((⟨#[102,32]⟩:ByteArray)++n).size=2+n.size:=ByteArray.size_append
    have e4:((⟨#[102,32]⟩:ByteArray)++n++(⟨#[32]⟩:ByteArray)).size=2+n.size+1:=by rw [ByteArray.size_append,e3];rfl
    refine Ev.pos (by omega) (Ev.pos (by omega) (Ev.bind (under9_ev l hl n (by omega)) (Ev.bind d1 (Ev.bind (sum_ev _ w (by omega)) (Ev.bind (hex_ev _ (by omega)) (Ev.pos (by omega) ?_))))))
    have nxt:∀ x:ByteArray,x.size≤150→x++(⟨#[10]⟩:ByteArray)=lineOf w D l n→Ev (fun k=>spec_l9Dir.l1 k w ks (acc++bytesOf x ++ [10]) (wrap64 ((i:Int)+1)) l) (strOfNums acc++(lineOf w D l n++gather ((ks.drop (i+1)).map (lineOf w D l)))):=by
      intro x hx hxl
      rw [w64 (n:=(i:Int)+1) (by omega) (by omega),show (i:Int)+1=((i+1:Nat):Int) from by omega,←hxl,←son_next]
      exact ih _ (by rw [List.length_append,List.length_append,bytesOf_len,List.length_singleton];omega)
    cases ho:atF l n with
    | none =>
      have hline:(⟨#[100,32]⟩:ByteArray)++n++(⟨#[32]⟩:ByteArray)++hexB (sumOf (D (subL n l)) w)++(⟨#[10]⟩:ByteArray)=lineOf w D l n:=by
        unfold lineOf
        rw [ho]
        rfl
      have hz1:((⟨#[100,32]⟩:ByteArray)++n++(⟨#[32]⟩:ByteArray)++hexB (sumOf (D (subL n l)) w)).size≤150:=by rw [ByteArray.size_append,e2];omega
      refine Ev.neg (by simp [atT]) (Ev.pos (by omega) (Ev.sb (Ev.pos (by rw [List.length_append,bytesOf_len];omega) ?_)))
      exact nxt _ hz1 hline
    | some e =>
      have hmem:=List.mem_of_find?_eq_some ho
      have hez:=hz e hmem
      have e5:((⟨#[102,105,108,101,32]⟩:ByteArray)++e.f1).size=5+e.f1.size:=ByteArray.size_append
      have hs2:=sumOf_size ((⟨#[102,105,108,101,32]⟩:ByteArray)++e.f1) w
      have hh2:=hexB_size (sumOf ((⟨#[102,105,108,101,32]⟩:ByteArray)++e.f1) w)
      have e6:((⟨#[102,32]⟩:ByteArray)++n++(⟨#[32]⟩:ByteArray)++hexB (sumOf ((⟨#[102,105,108,101,32]⟩:ByteArray)++e.f1) w)).size=2+n.size+1+(hexB (sumOf ((⟨#[102,105,108,101,32]⟩:ByteArray)++e.f1) w)).size:=by rw [ByteArray.size_append,e4]
      have hat:atT (some e)=(true,e.f1,e.f2):=rfl
      rw [hat]
      dsimp only
      refine Ev.pos rfl (Ev.pos (by omega) (Ev.pos (by omega) (Ev.bind (sum_ev _ w (by omega)) (Ev.bind (hex_ev _ (by omega)) (Ev.pos (by omega) ?_)))))
      cases hr:e.f2 with
      | true =>
        have hline:((⟨#[120]⟩:ByteArray)++(((⟨#[102,32]⟩:ByteArray)++n++(⟨#[32]⟩:ByteArray)++hexB (sumOf ((⟨#[102,105,108,101,32]⟩:ByteArray)++e.f1) w)).extract 1 ((⟨#[102,32]⟩:ByteArray)++n++(⟨#[32]⟩:ByteArray)++hexB (sumOf ((⟨#[102,105,108,101,32]⟩:ByteArray)++e.f1) w)).size))++(⟨#[10]⟩:ByteArray)=lineOf w D l n:=by
          rw [x_line]
          unfold lineOf
          rw [ho]
          show _=fileLine w n e.f1 e.f2
          unfold fileLine
          rw [hr,if_pos rfl]
        have hz1:((⟨#[120]⟩:ByteArray)++(((⟨#[102,32]⟩:ByteArray)++n++(⟨#[32]⟩:ByteArray)++hexB (sumOf ((⟨#[102,105,108,101,32]⟩:ByteArray)++e.f1) w)).extract 1 ((⟨#[102,32]⟩:ByteArray)++n++(⟨#[32]⟩:ByteArray)++hexB (sumOf ((⟨#[102,105,108,101,32]⟩:ByteArray)++e.f1) w)).size)).size≤150:=by
          rw [ByteArray.size_append,ByteArray.size_extract,e6]
          show 1+_≤150
          omega
        have hz2:(((⟨#[102,32]⟩:ByteArray)++n++(⟨#[32]⟩:ByteArray)++hexB (sumOf ((⟨#[102,105,108,101,32]⟩:ByteArray)++e.f1) w)).extract 1 ((⟨#[102,32]⟩:ByteArray)++n++(⟨#[32]⟩:ByteArray)++hexB (sumOf ((⟨#[102,105,108,101,32]⟩:ByteArray)++e.f1) w)).size).size≤150:=by
          rw [ByteArray.size_extract,e6]
          omega
        have N:=nxt _ hz1 hline
        refine Ev.pos rfl (Ev.pos (by rw [e6];omega) (Ev.pos (by omega) (Ev.pos (by omega) (Ev.sb (Ev.pos (by rw [List.length_append,bytesOf_len];omega) N)))))
      | false =>
        have hline:(⟨#[102,32]⟩:ByteArray)++n++(⟨#[32]⟩:ByteArray)++hexB (sumOf ((⟨#[102,105,108,101,32]⟩:ByteArray)++e.f1) w)++(⟨#[10]⟩:ByteArray)=lineOf w D l n:=by
          unfold lineOf
          rw [ho]
          show _=fileLine w n e.f1 e.f2
          unfold fileLine
          rw [hr,if_neg (by simp)]
        have hz1:((⟨#[102,32]⟩:ByteArray)++n++(⟨#[32]⟩:ByteArray)++hexB (sumOf ((⟨#[102,105,108,101,32]⟩:ByteArray)++e.f1) w)).size≤150:=by rw [e6];omega
        have N:=nxt _ hz1 hline
        exact Ev.neg (by simp) (Ev.pos (by omega) (Ev.sb (Ev.pos (by rw [List.length_append,bytesOf_len];omega) N)))
theorem sub_sizes {n:ByteArray} {l:List Entry} {m:Nat} (h:∀ e ∈ l,e.f0.size≤m∧e.f1.size≤1500):∀ e ∈ subL n l,e.f0.size≤m∧e.f1.size≤1500:=by
  intro x hx
  obtain ⟨e,he,_,rfl⟩:=sub_mem hx
  refine ⟨?_,(h e he).2⟩
  show (e.f0.extract (n.size+1) e.f0.size).size≤m
  rw [ByteArray.size_extract]
  have:=(h e he).1
  omega
theorem sub_len (n:ByteArray) (l:List Entry):(subL n l).length≤l.length:=by
  unfold subL
  rw [List.length_map]
  exact List.length_filter_le _ _
theorem dir_ev (w:Int):∀ (d:Nat) (l:List Entry),l.length≤100→(∀ e ∈ l,e.f0.size≤126∧e.f1.size≤1500)→(∀ e ∈ l,slashes e<d)→Ev (fun k=>spec_l9Dir.f k l w) (dirT w d l)
  | 0, l, hl, hz, hs => by
    obtain rfl:l = []:=by
      cases l with
      | nil=>rfl
      | cons a r=>exact absurd (hs a List.mem_cons_self) (by omega)
    refine Ev.step (fun k=>spec_l9Dir.f.eq_2 ..) (Ev.step (fun k=>spec_l9Dir.l0.eq_2 ..) (Ev.neg (by simp) (Ev.step (fun k=>spec_l9Dir.l1.eq_2 ..) (Ev.neg (by simp) (Ev.now _)))))
  | d + 1, l, hl, hz, hs => by
    refine Ev.step (fun k=>spec_l9Dir.f.eq_2 ..) ?_
    refine names_l0 l hl (fun e he=>(hz e he).1) w _ (fun names hn => ?_) l.length 0 [] (by omega) rfl
    subst hn
    have:=text_l1 w l hl hz (dirT w d) (fun n hn=>⟨dir_ev w d (subL n l) (Nat.le_trans (sub_len n l) hl) (sub_sizes hz) (sub_shallow hs),Nat.le_trans (dirT_size w 126 d (subL n l) (Nat.le_trans (sub_len n l) hl) (fun e he=>(sub_sizes hz e he).1)) (by omega)⟩) (keysS (firsts l)) (by
      have h1:=keysS_len (firsts l)
      unfold firsts at h1 ⊢
      rw [List.length_map] at h1
      omega) (fun n hn=>by
      rw [keysS_mem] at hn
      obtain ⟨e,he,rfl⟩:=List.mem_map.1 hn
      exact Nat.le_trans (first_size _) (hz e he).1) (keysS (firsts l)).length 0 [] (by omega) (by simp)
    rw [List.drop_zero,show strOfNums []=(⟨#[]⟩:ByteArray) from rfl,ba_empty_append] at this
    exact this

end Go.Proofs.YthfpoacindblgaaDoor.Pure


namespace Go.Proofs.YthfpoacindblgaaDoor.Pure
open Go Go.RowKit Go.Proofs.YthfpoacindblgaaDoor.P Go.Proofs.YthfpoacindblgaaDoorW.PrintWords Go.Proofs.YthfpoacindblgaaDoorW.PrintLast
set_option linter.unusedVariables false
set_option linter.unusedSimpArgs false

theorem mark_l0:∀ (m:Nat) (x:Int) (t:ByteArray),0≤x→x≤m→t.size+m≤100000000 → ∃ r,Ev (fun k=>laws_markText.l0 k x t) r
  | 0,x,t,h0,h1,h2=>⟨_,Ev.step (fun k=>laws_markText.l0.eq_2 ..) (Ev.neg (by omega) (Ev.pos (by omega) (Ev.now _)))⟩
  | m + 1, x, t, h0, h1, h2 => by
    by_cases h:x>0
    · have hd : Int.tdiv x 10 = x / 10 := Int.tdiv_eq_ediv_of_nonneg h0
      obtain ⟨r,hr⟩:=mark_l0 m (Int.tdiv x 10) (strOfNums [(wrap64 (48+(Int.tmod x 10))) % 256]++t) (by omega) (by omega) (by rw [ByteArray.size_append,son_size];simp;omega)
      refine ⟨r,Ev.step (fun k=>laws_markText.l0.eq_2 ..) (Ev.pos h (Ev.sb (Ev.pos (by rw [son_size];simp;omega) ?_)))⟩
      rw [w64 (n:=Int.tdiv x 10) (by omega) (by omega)]
      exact hr
    · exact ⟨_,Ev.step (fun k=>laws_markText.l0.eq_2 ..) (Ev.neg h (Ev.pos (by omega) (Ev.now _)))⟩
theorem mark_ev (n:Nat) (h:n≤20000000):∃ r,Ev (fun k=>laws_markText.f k (n:Int)) r:=by
  unfold laws_markText.f
  by_cases h0:(n:Int)≤0
  · exact ⟨_,Ev.pos h0 (Ev.now _)⟩
  · obtain ⟨r, hr⟩ := mark_l0 n n ⟨#[]⟩ (by omega) (by omega) (by have : (⟨#[]⟩ : ByteArray).size = 0 := rfl; omega)
    exact ⟨r,Ev.neg h0 hr⟩
noncomputable def mark (n:Nat):ByteArray:=if h:n≤20000000 then (mark_ev n h).choose else ⟨#[]⟩
theorem mark_spec (n:Nat) (h:n≤20000000):Ev (fun k=>laws_markText.f k (n:Int)) (mark n):=by
  unfold mark
  rw [dif_pos h]
  exact (mark_ev n h).choose_spec

end Go.Proofs.YthfpoacindblgaaDoor.Pure


namespace Go.Proofs.YthfpoacindblgaaDoor.Pure
open Go Go.RowKit Go.Proofs.YthfpoacindblgaaDoor.P Go.Proofs.YthfpoacindblgaaDoorW.PrintWords Go.Proofs.YthfpoacindblgaaDoorW.PrintLast
set_option linter.unusedVariables false
set_option linter.unusedSimpArgs false

noncomputable def EM (i:Nat):Entry:=⟨mark (1+3*i),mark (2+3*i),(Int.tmod ((3+3*i:Nat):Int) 3==0)⟩
def MarkedE (l:List Entry) (i:Nat):Prop:=∀ j,(h:j<l.length)→j<i→l[j]=EM j
theorem rdE_set {l:List Entry} {i:Nat} (h:i<l.length) (a:Entry):rd_T55 (l.set i a) (i:Int)=a:=by
  rw [rdE_eq (by rw [List.length_set];exact h),List.getElem_set_self]
theorem marksE_ev : ∀ (d i : Nat) (l : List Entry), i + d = l.length → l.length ≤ 1100000 → MarkedE l i → Evs (fun k => laws_markEntryS.l0 k l ((1 + 3 * i : Nat) : Int) (i : Int)) (fun r => r.1 = ((1 + 3 * l.length : Nat) : Int) ∧ r.2.length = l.length ∧ MarkedE r.2 l.length)
  | 0, i, l, hd, hl, hm => by
    refine Evs.step (fun k=>laws_markEntryS.l0.eq_2 ..) (Evs.neg (by omega) (Evs.ret ⟨by show ((1+3*i:Nat):Int)=_;omega,rfl,fun j h _=>hm j h (by omega)⟩))
  | d + 1, i, l, hd, hl, hm => by
    have hi:i<l.length:=by omega
    refine Evs.step (fun k=>laws_markEntryS.l0.eq_2 ..) (Evs.pos (by omega) (Evs.bind (Evs.of (mark_spec (1+3*i) (by omega)) (Q:=fun t=>t=mark (1+3*i)) rfl) (fun t ht=>Evs.pos (by omega) ?_)))
    subst ht
    rw [Int.toNat_natCast,w64 (n:=((1+3*i:Nat):Int)+1) (by omega) (by omega),show ((1+3*i:Nat):Int)+1=((2+3*i:Nat):Int) from by omega,w64 (n:=((2+3*i:Nat):Int)+1) (by omega) (by omega),show ((2+3*i:Nat):Int)+1=((3+3*i:Nat):Int) from by omega,w64 (n:=((3+3*i:Nat):Int)+1) (by omega) (by omega),show ((3+3*i:Nat):Int)+1=((1+3*(i+1):Nat):Int) from by omega,w64 (n:=(i:Int)+1) (by omega) (by omega),show (i:Int)+1=((i+1:Nat):Int) from by omega]
    refine Evs.sb (Evs.bind (Evs.of (mark_spec (2+3*i) (by omega)) (Q:=fun t=>t=mark (2+3*i)) rfl) (fun t ht => ?_))
    subst ht
    refine Evs.sb ?_
    simp only [rdE_set hi,List.set_set]
    have e2:∀ a:Entry,rd_T55 (l.set i a) (i:Int)=a:=rdE_set hi
    have:=marksE_ev d (i+1) (l.set i (EM i)) (by rw [List.length_set];omega) (by rw [List.length_set];exact hl) (fun j h hj=>by
      rw [List.getElem_set]
      split
      · rename_i e
        rw [e]
      · exact hm j (by simpa using h) (by omega))
    rw [List.length_set] at this
    exact this
/-- Marked. -/
theorem markTree_ev (l:List Entry) (hl:l.length≤1100000):∃ L:List Entry,Ev (fun k=>laws_markTree.f k l 1) (((1+3*l.length:Nat):Int),L):=by
  obtain ⟨p,⟨p1,p2,p3⟩,hp⟩:=marksE_ev l.length 0 l (by omega) hl (fun j _ hj=>by omega)
  refine ⟨p.2,?_⟩
  unfold laws_markTree.f laws_markEntryS.f
  refine Ev.bind hp ?_
  rw [←p1]
  exact Ev.now _

end Go.Proofs.YthfpoacindblgaaDoor.Pure


namespace Go.Proofs.YthfpoacindblgaaDoor.Pure
open Go Go.RowKit Go.Proofs.YthfpoacindblgaaDoor.P Go.Proofs.YthfpoacindblgaaDoorW.PrintWords Go.Proofs.YthfpoacindblgaaDoorW.PrintLast
set_option linter.unusedVariables false
set_option linter.unusedSimpArgs false

theorem rdL0 {l:List ByteArray} {i:Nat} (h:i<l.length):rdOf ByteArray.empty l (i:Int)=l[i]:=by
  unfold rdOf
  rw [Int.toNat_natCast,List.getD_eq_getElem?_getD,List.getElem?_eq_getElem h]
  rfl
def Marked (l:List ByteArray) (i:Nat):Prop:=∀ j,(h:j<l.length)→j<i→l[j]=mark (1+j)
theorem marks_ev : ∀ (d i : Nat) (l : List ByteArray), i + d = l.length → l.length ≤ 1100000 → Marked l i → Evs (fun k => laws_markStringS.l0 k l ((1 + i : Nat) : Int) (i : Int)) (fun r => r.1 = ((1 + l.length : Nat) : Int) ∧ r.2.length = l.length ∧ Marked r.2 l.length)
  | 0, i, l, hd, hl, hm => by
    refine Evs.step (fun k=>laws_markStringS.l0.eq_2 ..) (Evs.neg (by omega) (Evs.ret ⟨by simp;omega,rfl,fun j h _=>hm j h (by omega)⟩))
  | d + 1, i, l, hd, hl, hm => by
    refine Evs.step (fun k=>laws_markStringS.l0.eq_2 ..) (Evs.pos (by omega) (Evs.bind (Evs.of (mark_spec (1+i) (by omega)) (Q:=fun t=>t=mark (1+i)) rfl) (fun t ht=>Evs.pos (by omega) ?_)))
    subst ht
    rw [Int.toNat_natCast,w64 (n:=((1+i:Nat):Int)+1) (by omega) (by omega),w64 (n:=(i:Int)+1) (by omega) (by omega),show ((1+i:Nat):Int)+1=((1+(i+1):Nat):Int) from by omega,show (i:Int)+1=((i+1:Nat):Int) from by omega]
    have:=marks_ev d (i+1) (l.set i (mark (1+i))) (by rw [List.length_set];omega) (by rw [List.length_set];exact hl) (fun j h hj=>by
      rw [List.getElem_set]
      split
      · rename_i e
        rw [e]
      · exact hm j (by simpa using h) (by omega))
    rw [List.length_set] at this
    exact this
theorem held_ev (l:List ByteArray) (hl:l.length≤1100000) (hm:Marked l l.length):∀ (d i:Nat),i+d=l.length→Ev (fun k=>laws_heldStringS.l0 k l ((1+i:Nat):Int) (i:Int)) ((1+l.length:Nat):Int)
  | 0, i, hd => by
    have e:((1+l.length:Nat):Int)=((1+i:Nat):Int):=by omega
    rw [e]
    exact Ev.step (fun k=>laws_heldStringS.l0.eq_2 ..) (Ev.neg (by omega) (Ev.now _))
  | d + 1, i, hd => by
    refine Ev.step (fun k=>laws_heldStringS.l0.eq_2 ..) (Ev.pos (by omega) (Ev.pos (by omega) (Ev.bind (mark_spec (1+i) (by omega)) ?_)))
    rw [rdL0 (show i<l.length by omega),hm i (by omega) (by omega),w64 (n:=((1+i:Nat):Int)+1) (by omega) (by omega),w64 (n:=(i:Int)+1) (by omega) (by omega),show ((1+i:Nat):Int)+1=((1+(i+1):Nat):Int) from by omega,show (i:Int)+1=((i+1:Nat):Int) from by omega]
    exact Ev.pos rfl (held_ev l hl hm d (i+1) (by omega))
/-- Marked, and held. -/
theorem marked_ev (l:List ByteArray) (hl:l.length≤1100000):∃ L:List ByteArray,L.length=l.length∧Ev (fun k=>laws_markStringS.f k l 1) (((1+l.length:Nat):Int),L)∧Ev (fun k=>laws_heldStringS.f k L 1) ((1+l.length:Nat):Int):=by
  obtain ⟨p,⟨p1,p2,p3⟩,hp⟩:=marks_ev l.length 0 l (by omega) hl (fun j _ hj=>by omega)
  refine ⟨p.2,p2,?_,?_⟩
  · unfold laws_markStringS.f
    rw [←p1]
    exact hp
  · unfold laws_heldStringS.f
    have:=held_ev p.2 (by omega) (by rw [p2];exact p3) p.2.length 0 (by omega)
    rw [p2] at this
    exact this

end Go.Proofs.YthfpoacindblgaaDoor.Pure


namespace Go.Proofs.YthfpoacindblgaaDoor.Pure
open Go Go.RowKit Go.Proofs.YthfpoacindblgaaDoor.P Go.Proofs.YthfpoacindblgaaDoorW.PrintWords Go.Proofs.YthfpoacindblgaaDoorW.PrintLast
set_option linter.unusedVariables false
set_option linter.unusedSimpArgs false

theorem eq_l0 (l:List ByteArray) (hl:l.length≤8796093022208):∀ (d i:Nat),i+d=l.length→Ev (fun k=>laws_eqStringS.l0 k l l (i:Int)) true
  | 0, i, hd => by
    refine Ev.step (f:=fun _=>some true) (fun k => ?_) (Ev.now _)
    simp only [laws_eqStringS.l0]
    rw [if_neg (by omega)]
  | d + 1, i, hd => by
    refine Ev.step (fun k => ?_) (eq_l0 l hl d (i+1) (by omega))
    simp only [laws_eqStringS.l0]
    rw [if_pos (by omega),if_pos (by omega),if_pos (by omega),if_pos (by trivial),w64 (by omega) (by omega)]
    rfl
theorem eqTexts (l:List ByteArray) (hl:l.length≤8796093022208):Ev (fun k=>laws_eqStringS.f k l l) true:=by
  unfold laws_eqStringS.f
  exact Ev.pos rfl (eq_l0 l hl l.length 0 (by omega))

end Go.Proofs.YthfpoacindblgaaDoor.Pure

