/- Several texts of this claim in one file: YtkmfnmeilooogaaDoorCuts, YtkmfnmeilooogaaDoorLinesS, YtkmfnmeilooogaaDoorLinesCat, YtkmfnmeilooogaaDoorMerge3, YtkmfnmeilooogaaDoorLines, YtkmfnmeilooogaaDoorLinesI, YtkmfnmeilooogaaDoorSq118, YtkmfnmeilooogaaDoorCommon, YtkmfnmeilooogaaDoorMergeS. -/
import Derived.Test.YtkmfnmeilooogaaDoorM4
import Derived.Test.YtkmfnmeilooogaaDoorM3
import Derived.Lib.SplitLaws
import Derived.Test.YtkmfnmeilooogaaDoorM5
namespace Go.Proofs.YtkmfnmeilooogaaDoor.Pure
open Go Go.RowKit Go.Proofs.YtkmfnmeilooogaaDoor.P Go.Proofs.YtkmfnmeilooogaaDoorW.PrintWords Go.Proofs.YtkmfnmeilooogaaDoorW.PrintLast
set_option linter.unusedVariables false
set_option linter.unusedSimpArgs false

/-- The bytes, cut at each c; cur: what has been read of the piece. -/
def cuts (c:UInt8):List UInt8→List UInt8→List (List UInt8)
  | [],cur => [cur]
  | b :: r,cur=>if b=c then cur :: cuts c r [] else cuts c r (cur ++ [b])
def ofBytes (l:List UInt8):ByteArray:=⟨l.toArray⟩
theorem ofBytes_data (l:List UInt8):(ofBytes l).data.toList=l:=by simp [ofBytes]
theorem ofBytes_of (s:ByteArray):ofBytes s.data.toList=s:=ba_ext (ofBytes_data _)
theorem ofBytes_size (l:List UInt8):(ofBytes l).size=l.length:=by rw [←size_toList,ofBytes_data]
def piecesB (c:UInt8) (s:ByteArray):List ByteArray:=(cuts c s.data.toList []).map ofBytes

theorem cuts_free (c:UInt8):∀ (a cur:List UInt8),c ∉ a→cuts c a cur = [cur++a]
  | [],cur,_=>by rw [cuts,List.append_nil]
  | b :: r, cur, h => by
    rw [cuts,if_neg (fun e:b=c=>h (by rw [e];exact List.mem_cons_self ..)),cuts_free c r _ (fun hm=>h (List.mem_cons_of_mem _ hm)),List.append_assoc]
    rfl
theorem cuts_hit (c:UInt8) (r:List UInt8):∀ (a cur:List UInt8),c ∉ a→cuts c (a++c :: r) cur=(cur++a) :: cuts c r []
  | [],cur,_=>by rw [List.nil_append,cuts,if_pos rfl,List.append_nil]
  | b :: a, cur, h => by
    rw [List.cons_append,cuts,if_neg (fun e:b=c=>h (by rw [e];exact List.mem_cons_self ..)),cuts_hit c r a _ (fun hm=>h (List.mem_cons_of_mem _ hm)),List.append_assoc]
    rfl
theorem cuts_length (c:UInt8):∀ (l cur:List UInt8),(cuts c l cur).length≤l.length+1
  | [],cur=>by simp [cuts]
  | b :: r, cur => by
    rw [cuts]
    split
    · have := cuts_length c r []
      simp only [List.length_cons]
      omega
    · have := cuts_length c r (cur ++ [b])
      simp only [List.length_cons]
      omega
/-- All bytes are in the pieces, but for the cuts. -/
theorem cuts_total (c:UInt8):∀ (l cur:List UInt8),((cuts c l cur).map List.length).sum+(cuts c l cur).length=cur.length+l.length+1
  | [],cur=>by simp [cuts]
  | b :: r, cur => by
    rw [cuts]
    split
    · have := cuts_total c r []
      simp only [List.map_cons,List.sum_cons,List.length_cons,List.length_nil] at this ⊢
      omega
    · have := cuts_total c r (cur ++ [b])
      simp only [List.length_append,List.length_cons,List.length_nil] at this ⊢
      omega
theorem piecesB_length (c:UInt8) (s:ByteArray):(piecesB c s).length≤s.size+1:=by
  unfold piecesB
  rw [List.length_map,←size_toList]
  exact cuts_length c _ _
theorem piecesB_size (c : UInt8) (s : ByteArray) : ∀ p ∈ piecesB c s, p.size ≤ s.size := by
  intro p hp
  unfold piecesB at hp
  obtain ⟨l,hl,rfl⟩:=List.mem_map.1 hp
  have ht:=cuts_total c s.data.toList []
  have h1 : l.length ≤ ((cuts c s.data.toList []).map List.length).sum := by
    have:∀ (L:List (List UInt8)),l ∈ L→l.length≤(L.map List.length).sum:=by
      intro L
      induction L with
      | nil=>intro h;cases h
      | cons a L ih =>
        intro h
        rw [List.map_cons,List.sum_cons]
        rcases List.mem_cons.1 h with rfl|h
        · omega
        · have := ih h
          omega
    exact this _ hl
  have h2:1≤(cuts c s.data.toList []).length:=by
    cases hc:cuts c s.data.toList [] with
    | nil=>rw [hc] at hl;cases hl
    | cons a r=>simp
  rw [ofBytes_size,←size_toList]
  simp only [List.length_nil] at ht
  omega

theorem index_one (c : UInt8) : ∀ l : List UInt8, (Go.Lib.index l [c] = -1 ∧ c ∉ l) ∨ ∃ a r, l = a ++ c :: r ∧ c ∉ a ∧ Go.Lib.index l [c] = (a.length : Int)
  | [] => .inl ⟨by simp [Go.Lib.index],by simp⟩
  | b :: l => by
    by_cases h:b=c
    · subst h
      exact .inr ⟨[],l,rfl,by simp,by rw [Go.Lib.index];simp [List.isPrefixOf]⟩
    · have hp : ([c] : List UInt8).isPrefixOf (b :: l) = false := by simp [List.isPrefixOf, Ne.symm h]
      have hix:Go.Lib.index (b :: l) [c]=if Go.Lib.index l [c] == -1 then -1 else Go.Lib.index l [c]+1:=by rw [Go.Lib.index,hp];simp
      rcases index_one c l with ⟨h1,h2⟩|⟨a,r,h1,h2,h3⟩
      · refine .inl ⟨by rw [hix, h1]; rfl, fun hm => ?_⟩
        rcases List.mem_cons.1 hm with e|hm
        · exact h e.symm
        · exact h2 hm
      · refine .inr ⟨b :: a, r, by rw [h1]; rfl, fun hm => ?_, ?_⟩
        · rcases List.mem_cons.1 hm with e | hm
          · exact h e.symm
          · exact h2 hm
        · rw [hix, h3, if_neg (by simp)]
          simp
theorem splitB_one (c : UInt8) (save : Nat) (hs : save ≤ 1) : ∀ (n : Nat) (s : ByteArray), s.size ≤ n →
    (Go.Lib.splitB ⟨#[c]⟩ save (Go.Lib.countB s ⟨#[c]⟩) s).map (·.data.toList)=(if save=0 then cuts c s.data.toList [] else Go.Lib.splitK [c] save (s.data.toList.count c) s.data.toList):=by
  intro n s hn
  rw [Go.Lib.splitB_data]
  have hc:Go.Lib.countB s ⟨#[c]⟩=s.data.toList.count c:=Go.Lib.count_one c _
  rw [hc]
  by_cases h0:save=0
  · subst h0
    rw [if_pos rfl]
    clear hn hc hs
    generalize s.data.toList=l
    suffices H:∀ (m:Nat) (l:List UInt8),l.length≤m→Go.Lib.splitK [c] 0 (l.count c) l=cuts c l [] from H l.length l (Nat.le_refl _)
    intro m
    induction m with
    | zero =>
      intro l hl
      obtain rfl:l = []:=List.length_eq_zero_iff.1 (by omega)
      rfl
    | succ m ih =>
      intro l hl
      rcases index_one c l with ⟨h1,h2⟩|⟨a,r,h1,h2,h3⟩
      · rw [cuts_free c l [] h2, List.count_eq_zero_of_not_mem h2]
        rfl
      · have hcount : l.count c = r.count c + 1 := by
          rw [h1,List.count_append,List.count_cons_self,List.count_eq_zero_of_not_mem h2]
          omega
        rw [hcount,Go.Lib.splitK,if_neg (by rw [h3];simp),h3,h1,cuts_hit c r a [] h2]
        have e1:(a++c :: r).take ((a.length:Int).toNat+0)=a:=by simp
        have e2:(a++c :: r).drop ((a.length:Int).toNat + [c].length)=r:=by simp
        rw [e1,e2,ih r (by rw [h1,List.length_append,List.length_cons] at hl;omega)]
        rfl
  · rw [if_neg h0]
theorem split_eq (c:UInt8) (s:ByteArray) (hs:s.size<4294967281):strings_Split.f s ⟨#[c]⟩=some (piecesB c s):=by
  unfold strings_Split.f
  rw [if_pos hs,if_pos (by simp [ByteArray.size])]
  congr 1
  have:=splitB_one c 0 (by omega) s.size s (Nat.le_refl _)
  rw [if_pos rfl] at this
  unfold piecesB
  rw [←this,List.map_map]
  have:(ofBytes∘fun x:ByteArray=>x.data.toList)=id:=by
    funext x
    exact ofBytes_of x
  rw [this,List.map_id]

theorem extract_data (s:ByteArray) (a b:Nat):(s.extract a b).data.toList=(s.data.toList.take b).drop a:=by
  rw [ByteArray.data_extract,Array.toList_extract]
  simp [List.extract,List.drop_take]
theorem spec_Pa0 (s : ByteArray) (hs : s.size ≤ 1048576) : ∀ (d i f : Nat) (acc : List ByteArray), i + d = s.size → f ≤ i → acc.length ≤ i →
    Ev (fun k=>spec_l4Parts.l0 k s acc (f:Int) (i:Int)) (acc++(cuts 47 (s.data.toList.drop i) ((s.data.toList.take i).drop f)).map ofBytes)
  | 0, i, f, acc, hd, hf, ha => by
    refine Ev.step (fun k=>spec_l4Parts.l0.eq_2 ..) (Ev.neg (by omega) (Ev.pos (by omega) (Ev.pos (by omega) (Ev.pos (by omega) ?_))))
    rw [List.drop_of_length_le (by rw [size_toList];omega),cuts]
    have:s.extract (f:Int).toNat s.size=ofBytes ((s.data.toList.take i).drop f):=by
      apply ba_ext
      rw [ofBytes_data,extract_data,Int.toNat_natCast,show s.size=i from by omega]
    rw [this]
    exact Ev.now _
  | d + 1, i, f, acc, hd, hf, ha => by
    have hi:i<s.data.toList.length:=by rw [size_toList];omega
    have hb:bt s (i:Int)=(s.data.toList[i].toNat:Int):=by
      rw [bt_getD,List.getD_eq_getElem?_getD,List.getElem?_eq_getElem hi]
      rfl
    have hw:wrap64 ((i:Int)+1)=((i+1:Nat):Int):=by rw [w64 (by omega) (by omega)];omega
    have ht:(s.data.toList.take (i+1)).drop f=(s.data.toList.take i).drop f ++ [s.data.toList[i]]:=by
      rw [List.take_succ_eq_append_getElem hi,List.drop_append_of_le_length (by rw [List.length_take];omega)]
    refine Ev.step (fun k=>spec_l4Parts.l0.eq_2 ..) (Ev.pos (by omega) (Ev.pos (by omega) ?_))
    rw [List.drop_eq_getElem_cons hi,cuts,hb,hw]
    by_cases h:s.data.toList[i]=47
    · rw [if_pos h]
      refine Ev.pos (by rw [h];rfl) (Ev.pos (by omega) (Ev.pos (by omega) (Ev.pos (by omega) (Ev.pos (by omega) ?_))))
      have:=spec_Pa0 s hs d (i+1) (i+1) (acc ++ [s.extract (f:Int).toNat (i:Int).toNat]) (by omega) (by omega) (by simp;omega)
      have e:s.extract (f:Int).toNat (i:Int).toNat=ofBytes ((s.data.toList.take i).drop f):=by
        apply ba_ext
        rw [ofBytes_data,extract_data,Int.toNat_natCast,Int.toNat_natCast]
      rw [e] at this ⊢
      rw [List.drop_of_length_le (l:=s.data.toList.take (i+1)) (by rw [List.length_take];omega)] at this
      simpa using this
    · rw [if_neg h]
      refine Ev.neg (fun e=>h (UInt8.toNat_inj.1 (by have:(47:UInt8).toNat=47:=rfl;omega))) ?_
      have:=spec_Pa0 s hs d (i+1) f acc (by omega) (by omega) (by omega)
      rwa [ht] at this
theorem spec_parts_ev (s:ByteArray) (hs:s.size≤1048576):Ev (fun k=>spec_l4Parts.f k s) (piecesB 47 s):=by
  unfold spec_l4Parts.f piecesB
  have:=spec_Pa0 s hs s.size 0 0 [] (by omega) (by omega) (by simp)
  simpa using this

end Go.Proofs.YtkmfnmeilooogaaDoor.Pure


namespace Go.Proofs.YtkmfnmeilooogaaDoor.Pure
open Go Go.RowKit Go.Proofs.YtkmfnmeilooogaaDoor.P Go.Proofs.YtkmfnmeilooogaaDoorW.PrintWords Go.Proofs.YtkmfnmeilooogaaDoorW.PrintLast
set_option linter.unusedVariables false
set_option linter.unusedSimpArgs false

/-- The bytes, cut behind each c; what is left stands last, be it empty. -/
def behind (c:UInt8):List UInt8→List UInt8→List (List UInt8)
  | [],cur => [cur]
  | b :: r,cur=>if b=c then (cur ++ [b]) :: behind c r [] else behind c r (cur ++ [b])
def cutEnd (L:List (List UInt8)):List (List UInt8):=if L.getLast? = some [] then L.dropLast else L
theorem behind_free (c:UInt8):∀ (a cur:List UInt8),c ∉ a→behind c a cur = [cur++a]
  | [],cur,_=>by rw [behind,List.append_nil]
  | b :: r, cur, h => by
    rw [behind,if_neg (fun e:b=c=>h (by rw [e];exact List.mem_cons_self ..)),behind_free c r _ (fun hm=>h (List.mem_cons_of_mem _ hm)),List.append_assoc]
    rfl
theorem behind_hit (c:UInt8) (r:List UInt8):∀ (a cur:List UInt8),c ∉ a→behind c (a++c :: r) cur=(cur++a ++ [c]) :: behind c r []
  | [],cur,_=>by rw [List.nil_append,behind,if_pos rfl,List.append_nil]
  | b :: a, cur, h => by
    rw [List.cons_append,behind,if_neg (fun e:b=c=>h (by rw [e];exact List.mem_cons_self ..)),behind_hit c r a _ (fun hm=>h (List.mem_cons_of_mem _ hm)),List.append_assoc cur [b] a]
    rfl
theorem behind_ne (c:UInt8):∀ (l cur:List UInt8),behind c l cur ≠ []
  | [],cur=>by simp [behind]
  | b :: r, cur => by
    rw [behind]
    split
    · simp
    · exact behind_ne c r _
theorem behind_length (c:UInt8):∀ (l cur:List UInt8),(behind c l cur).length≤l.length+1
  | [],cur=>by simp [behind]
  | b :: r, cur => by
    rw [behind]
    split
    · have := behind_length c r []
      simp only [List.length_cons]
      omega
    · have := behind_length c r (cur ++ [b])
      simp only [List.length_cons]
      omega
def lines (s:ByteArray):List ByteArray:=if (s.size:Int)>1500 then [] else (cutEnd (behind 10 s.data.toList [])).map ofBytes

theorem spec_Ln0 (s : ByteArray) (hs : s.size ≤ 1500) : ∀ (d i f : Nat) (acc : List ByteArray), i + d = s.size → f ≤ i → acc.length ≤ i →
    Ev (fun k=>spec_Lines.l0 k s acc (f:Int) (i:Int)) (acc++(cutEnd (behind 10 (s.data.toList.drop i) ((s.data.toList.take i).drop f))).map ofBytes)
  | 0, i, f, acc, hd, hf, ha => by
    refine Ev.step (fun k=>spec_Lines.l0.eq_2 ..) (Ev.neg (by omega) ?_)
    rw [List.drop_of_length_le (by rw [size_toList];omega),behind]
    unfold cutEnd
    rw [List.getLast?_singleton]
    by_cases h:(f:Int)<(s.size:Int)
    · have hne : (s.data.toList.take i).drop f ≠ [] := by
        intro e
        have:=congrArg List.length e
        rw [List.length_drop,List.length_take,size_toList,List.length_nil] at this
        omega
      rw [if_neg (fun e=>hne (Option.some.inj e))]
      refine Ev.pos h (Ev.pos (by omega) (Ev.pos (by omega) (Ev.pos (by omega) ?_)))
      have:s.extract (f:Int).toNat s.size=ofBytes ((s.data.toList.take i).drop f):=by
        apply ba_ext
        rw [ofBytes_data,extract_data,Int.toNat_natCast,show s.size=i from by omega]
      rw [this]
      exact Ev.now _
    · have he : (s.data.toList.take i).drop f = [] := List.drop_of_length_le (by rw [List.length_take, size_toList]; omega)
      rw [he,if_pos rfl]
      refine Ev.neg h ?_
      simp only [List.dropLast_singleton,List.map_nil,List.append_nil]
      exact Ev.now _
  | d + 1, i, f, acc, hd, hf, ha => by
    have hi:i<s.data.toList.length:=by rw [size_toList];omega
    have hb:bt s (i:Int)=(s.data.toList[i].toNat:Int):=by
      rw [bt_getD,List.getD_eq_getElem?_getD,List.getElem?_eq_getElem hi]
      rfl
    have hw:wrap64 ((i:Int)+1)=((i+1:Nat):Int):=by rw [w64 (by omega) (by omega)];omega
    have ht:(s.data.toList.take (i+1)).drop f=(s.data.toList.take i).drop f ++ [s.data.toList[i]]:=by
      rw [List.take_succ_eq_append_getElem hi,List.drop_append_of_le_length (by rw [List.length_take];omega)]
    refine Ev.step (fun k=>spec_Lines.l0.eq_2 ..) (Ev.pos (by omega) (Ev.pos (by omega) ?_))
    rw [List.drop_eq_getElem_cons hi,behind,hb,hw]
    by_cases h:s.data.toList[i]=10
    · rw [if_pos h]
      refine Ev.pos (by rw [h];rfl) (Ev.pos (by omega) (Ev.pos (by omega) (Ev.pos (by omega) (Ev.pos (by omega) ?_))))
      have:=spec_Ln0 s hs d (i+1) (i+1) (acc ++ [s.extract (f:Int).toNat ((i+1:Nat):Int).toNat]) (by omega) (by omega) (by simp;omega)
      have e:s.extract (f:Int).toNat ((i+1:Nat):Int).toNat=ofBytes ((s.data.toList.take i).drop f ++ [s.data.toList[i]]):=by
        apply ba_ext
        rw [ofBytes_data,extract_data,Int.toNat_natCast,Int.toNat_natCast,ht]
      rw [e] at this ⊢
      rw [List.drop_of_length_le (l:=s.data.toList.take (i+1)) (by rw [List.length_take];omega)] at this
      have hc:cutEnd (((s.data.toList.take i).drop f ++ [s.data.toList[i]]) :: behind 10 (s.data.toList.drop (i+1)) [])=((s.data.toList.take i).drop f ++ [s.data.toList[i]]) :: cutEnd (behind 10 (s.data.toList.drop (i+1)) []):=by
        have hn:=behind_ne 10 (s.data.toList.drop (i+1)) []
        revert hn
        generalize behind 10 (s.data.toList.drop (i+1)) []=L
        intro hn
        unfold cutEnd
        cases L with
        | nil=>exact absurd rfl hn
        | cons x L =>
          rw [List.getLast?_cons_cons]
          split <;> rfl
      rw [hc]
      simpa using this
    · rw [if_neg h]
      refine Ev.neg (fun e=>h (UInt8.toNat_inj.1 (by have:(10:UInt8).toNat=10:=rfl;omega))) ?_
      have:=spec_Ln0 s hs d (i+1) f acc (by omega) (by omega) (by omega)
      rwa [ht] at this
theorem spec_Lines_ev (s:ByteArray):Ev (fun k=>spec_Lines.f k s) (lines s):=by
  unfold spec_Lines.f lines
  refine Ev.sb ?_
  by_cases h:(s.size:Int)>1500
  · rw [if_pos h]
    exact Ev.pos h (Ev.now _)
  · rw [if_neg h]
    have:=spec_Ln0 s (by omega) s.size 0 0 [] (by omega) (by omega) (by simp)
    exact Ev.neg h (by simpa using this)

end Go.Proofs.YtkmfnmeilooogaaDoor.Pure


namespace Go.Proofs.YtkmfnmeilooogaaDoor.Pure
open Go Go.RowKit Go.Proofs.YtkmfnmeilooogaaDoor.P Go.Proofs.YtkmfnmeilooogaaDoorW.PrintWords Go.Proofs.YtkmfnmeilooogaaDoorW.PrintLast
set_option linter.unusedVariables false
set_option linter.unusedSimpArgs false

def cat (l:List ByteArray):ByteArray:=ofBytes (l.map (·.data.toList)).flatten
theorem cat_data (l:List ByteArray):(cat l).data.toList=(l.map (·.data.toList)).flatten:=ofBytes_data _
theorem cat_nil:cat []=⟨#[]⟩:=rfl
theorem cat_app (a b:List ByteArray):cat (a++b)=cat a++cat b:=by
  apply ba_ext
  rw [data_append,cat_data,cat_data,cat_data,List.map_append,List.flatten_append]
theorem cat_one (x:ByteArray):cat [x]=x:=by
  apply ba_ext
  rw [cat_data]
  simp
theorem cat_cons (x:ByteArray) (l:List ByteArray):cat (x :: l)=x++cat l:=by
  rw [show x :: l = [x]++l from rfl,cat_app,cat_one]
theorem behind_flat:∀ (l cur:List UInt8),(behind 10 l cur).flatten=cur++l
  | [], cur => by
    unfold behind
    simp
  | b :: r, cur => by
    unfold behind
    split
    · rw [List.flatten_cons, behind_flat r []]
      simp
    · rw [behind_flat r]
      simp
theorem cutEnd_flat (L:List (List UInt8)):(cutEnd L).flatten=L.flatten:=by
  unfold cutEnd
  split
  · rename_i h
    have hne:L ≠ []:=fun e=>by
      rw [e] at h
      cases h
    have e:=List.dropLast_concat_getLast hne
    rw [List.getLast?_eq_some_getLast hne] at h
    have h':=Option.some.inj h
    conv=>rhs;rw [←e,h']
    simp
  · rfl
theorem map_ofBytes (L:List (List UInt8)):(L.map ofBytes).map (·.data.toList)=L:=by
  rw [List.map_map]
  have:((fun x:ByteArray=>x.data.toList)∘ofBytes)=id:=by
    funext x
    exact ofBytes_data x
  rw [this,List.map_id]
theorem lines_cat {s:ByteArray} (h:¬ (s.size:Int)>1500):cat (lines s)=s:=by
  apply ba_ext
  rw [cat_data]
  unfold lines
  rw [if_neg h,map_ofBytes,cutEnd_flat,behind_flat,List.nil_append]
theorem cat_le_app (a b:List ByteArray):(cat (a++b)).size=(cat a).size+(cat b).size:=by rw [cat_app,ByteArray.size_append]
theorem cat_take_le (l:List ByteArray) (n:Nat):(cat (l.take n)).size+(cat (l.drop n)).size=(cat l).size:=by
  rw [←cat_le_app,List.take_append_drop]
theorem cat_lines_le (s:ByteArray):(cat (lines s)).size≤s.size:=by
  by_cases h:(s.size:Int)>1500
  · unfold lines
    rw [if_pos h]
    exact Nat.zero_le _
  · rw [lines_cat h]
    exact Nat.le_refl _
theorem lines_few (s : ByteArray) : (lines s).length ≤ 1501 := by
  unfold lines
  split
  · simp
  · rename_i h
    rw [List.length_map]
    have h1:=behind_length 10 s.data.toList []
    have h2:(cutEnd (behind 10 s.data.toList [])).length≤(behind 10 s.data.toList []).length:=by
      unfold cutEnd
      split
      · rw [List.length_dropLast]
        omega
      · exact Nat.le_refl _
    rw [size_toList] at h1
    omega
theorem l7Text_l0 (l:List ByteArray) (hl:l.length≤1000000):∀ (d i:Nat) (acc:List Int),i+d=l.length→acc.length+(cat (l.drop i)).size≤100000000000→Ev (fun k=>spec_l7Text.l0 k l acc (i:Int)) (strOfNums acc++cat (l.drop i))
  | 0, i, acc, hd, _ => by
    refine Ev.step (fun k=>spec_l7Text.l0.eq_2 ..) (Ev.neg (by omega) ?_)
    rw [List.drop_of_length_le (by omega),cat_nil,ba_append_empty]
    exact Ev.now _
  | d + 1, i, acc, hd, hz => by
    have hi:i<l.length:=by omega
    rw [List.drop_eq_getElem_cons hi,cat_cons,ByteArray.size_append] at hz
    have ih:=l7Text_l0 l hl d (i+1) (acc++bytesOf l[i]) (by omega) (by rw [List.length_append,bytesOf_len];omega)
    refine Ev.step (fun k=>spec_l7Text.l0.eq_2 ..) (Ev.pos (by omega) (Ev.pos (by omega) ?_))
    rw [rd_eq _ hi,w64 (n:=(i:Int)+1) (by omega) (by omega),show (i:Int)+1=((i+1:Nat):Int) from by omega]
    refine Ev.pos (by omega) ?_
    rw [son_append,son_bytesOf,ba_assoc,←cat_cons,←List.drop_eq_getElem_cons hi] at ih
    exact ih
theorem l7Text_ev (l:List ByteArray) (hl:l.length≤1000000) (hz:(cat l).size≤100000000000):Ev (fun k=>spec_l7Text.f k l) (cat l):=by
  unfold spec_l7Text.f
  have:=l7Text_l0 l hl l.length 0 [] (by omega) (by simpa using hz)
  have e:strOfNums []++cat (l.drop 0)=cat l:=by
    rw [List.drop_zero]
    exact ba_empty_append _
  rw [e] at this
  exact this

end Go.Proofs.YtkmfnmeilooogaaDoor.Pure


namespace Go.Proofs.YtkmfnmeilooogaaDoor.Pure
open Go Go.RowKit Go.Proofs.YtkmfnmeilooogaaDoor.P Go.Proofs.YtkmfnmeilooogaaDoorW.PrintWords Go.Proofs.YtkmfnmeilooogaaDoorW.PrintLast
set_option linter.unusedVariables false
set_option linter.unusedSimpArgs false

/-- A stretch. -/
def sl (l:List ByteArray) (i j:Nat):List ByteArray:=(l.take j).drop i
theorem sl_on {l:List ByteArray} {j k:Nat} (h:j≤k) (hk:k<l.length):l.take j++sl l j k ++ [l[k]]=l.take (k+1):=by
  unfold sl
  rw [List.take_succ_eq_append_getElem hk]
  congr 1
  have e:l.take j=(l.take k).take j:=by rw [List.take_take,Nat.min_eq_left h]
  rw [e,List.take_append_drop]
theorem sl_end {l:List ByteArray} {j:Nat} (h:j≤l.length):l.take j++sl l j l.length=l:=by
  unfold sl
  rw [List.take_length,List.take_append_drop]
theorem sl_past {l:List ByteArray} {j:Nat} (h:l.length≤j) (k:Nat):sl l j k = []:=by
  unfold sl
  exact List.drop_of_length_le (by rw [List.length_take];omega)
/-- Three stretches. -/
def three (x y z:ByteArray):Option ByteArray:=if y.toList=x.toList then some z else if z.toList=x.toList∨z.toList=y.toList then some y else none
theorem tl_b {a b:ByteArray} (h:a.toList=b.toList):a=b:=ba_ext (by rw [←Lib.toList_data,h,Lib.toList_data])
theorem three_comm (x y z:ByteArray):three x y z=three x z y:=by
  unfold three
  by_cases a:y.toList=x.toList
  · rw [if_pos a]
    by_cases b:z.toList=x.toList
    · rw [if_pos b,tl_b a,tl_b b]
    · rw [if_neg b,if_pos (.inl a)]
  · rw [if_neg a]
    by_cases b:z.toList=x.toList
    · rw [if_pos (.inl b),if_pos b]
    · rw [if_neg b]
      by_cases c:z.toList=y.toList
      · rw [if_pos (.inr c),if_pos (.inr c.symm),tl_b c]
      · rw [if_neg (fun h=>h.elim b c),if_neg (fun h=>h.elim a (fun e=>c e.symm))]
theorem three_left (x z:ByteArray):three x x z=some z:=if_pos rfl
theorem three_same (x y:ByteArray):three x y y=some y:=by
  unfold three
  split
  · rfl
  · rw [if_pos (.inr rfl)]
/-- The stretches, from line n of the first list on; f and g: the partners of its lines. -/
def mgo (O X Y : List ByteArray) (f g : Nat → Option Nat) : Nat → Nat → Nat → Nat → Nat → ByteArray → Option ByteArray
  | 0,_,_,_,_,out=>some out
  | d + 1, n, i, j, k, out =>
    if h:n<O.length then
      match f n,g n with
      | some x,some y=>(three (cat (sl O i n)) (cat (sl X j x)) (cat (sl Y k y))).bind fun s=>mgo O X Y f g d (n+1) (n+1) (x+1) (y+1) (out++s++O[n])
      | _,_=>mgo O X Y f g d (n+1) i j k out
    else (three (cat (sl O i n)) (cat (sl X j X.length)) (cat (sl Y k Y.length))).bind fun s=>mgo O X Y f g d (n+1) (n+1) (X.length+1) (Y.length+1) (out++s)
theorem mgo_comm (O X Y : List ByteArray) (f g : Nat → Option Nat) : ∀ (d n i j k : Nat) (out : ByteArray), mgo O X Y f g d n i j k out = mgo O Y X g f d n i k j out
  | 0,_,_,_,_,_=>rfl
  | d + 1, n, i, j, k, out => by
    unfold mgo
    by_cases h:n<O.length
    · rw [dif_pos h, dif_pos h]
      cases hf:f n with
      | none =>
        cases g n with
        | none=>exact mgo_comm O X Y f g d _ _ _ _ _
        | some y=>exact mgo_comm O X Y f g d _ _ _ _ _
      | some x =>
        cases g n with
        | none=>exact mgo_comm O X Y f g d _ _ _ _ _
        | some y =>
          dsimp only
          rw [three_comm]
          congr 1
          funext s
          exact mgo_comm O X Y f g d _ _ _ _ _
    · rw [dif_neg h, dif_neg h, three_comm]
      congr 1
      funext s
      exact mgo_comm O X Y f g d _ _ _ _ _
/-- Partners: equal lines, ascending. -/
structure Part (O X:List ByteArray) (f:Nat→Option Nat):Prop where
  lt:∀ n x,f n=some x→n<O.length → ∃ h:x<X.length,∀ hn:n<O.length,O[n]=X[x]
  up:∀ n m x y,f n=some x→f m=some y→n<m→x<y
/-- Where the place k in the second list stands, the elder lines' partners lie before it. -/
def Low (f:Nat→Option Nat) (n k:Nat):Prop:=∀ m y,n≤m→f m=some y→k≤y
theorem Low.next {O X:List ByteArray} {f:Nat→Option Nat} (h:Part O X f) {n x:Nat} (e:f n=some x):Low f (n+1) (x+1):=fun m y hm hy=>h.up n m x y e hy (by omega)
theorem Low.skip {f:Nat→Option Nat} {n k:Nat} (h:Low f n k):Low f (n+1) k:=fun m y hm hy=>h m y (by omega) hy
/-- The one unchanged: it is the other. -/
theorem mgo_left (O Y : List ByteArray) (g : Nat → Option Nat) (hg : Part O Y g) : ∀ (d n i k : Nat) (out : ByteArray), n + d = O.length + 1 → Low g n k → k ≤ Y.length → i ≤ n → 0 < d → out = cat (Y.take k) →
    mgo O O Y (fun n=>some n) g d n i i k out=some (cat Y)
  | 0,_,_,_,_,_,_,_,_,hd,_=>by omega
  | d + 1, n, i, k, out, hn, hl, hk, hi, _, ho => by
    unfold mgo
    by_cases h:n<O.length
    · rw [dif_pos h]
      cases e:g n with
      | none=>exact mgo_left O Y g hg d (n+1) i k out (by omega) hl.skip hk (by omega) (by omega) ho
      | some y =>
        dsimp only
        obtain ⟨hy,hO⟩:=hg.lt n y e h
        rw [three_left,Option.bind_some]
        refine mgo_left O Y g hg d (n+1) (n+1) (y+1) _ (by omega) (Low.next hg e) (by omega) (by omega) (by omega) ?_
        rw [hO h,ho,←cat_one Y[y],←cat_app,←cat_app,sl_on (hl n y (Nat.le_refl _) e) hy]
    · rw [dif_neg h]
      obtain rfl:d=0:=by omega
      obtain rfl:n=O.length:=by omega
      rw [three_left,Option.bind_some]
      unfold mgo
      rw [ho,←cat_app,sl_end hk]
/-- Both the same: it is that. -/
theorem mgo_same (O X : List ByteArray) (f : Nat → Option Nat) (hf : Part O X f) : ∀ (d n i k : Nat) (out : ByteArray), n + d = O.length + 1 → Low f n k → k ≤ X.length → 0 < d → out = cat (X.take k) →
    mgo O X X f f d n i k k out=some (cat X)
  | 0,_,_,_,_,_,_,_,hd,_=>by omega
  | d + 1, n, i, k, out, hn, hl, hk, _, ho => by
    unfold mgo
    by_cases h:n<O.length
    · rw [dif_pos h]
      cases e:f n with
      | none=>exact mgo_same O X f hf d (n+1) i k out (by omega) hl.skip hk (by omega) ho
      | some y =>
        dsimp only
        obtain ⟨hy,hO⟩:=hf.lt n y e h
        rw [three_same,Option.bind_some]
        refine mgo_same O X f hf d (n+1) (n+1) (y+1) _ (by omega) (Low.next hf e) (by omega) (by omega) ?_
        rw [hO h,ho,←cat_one X[y],←cat_app,←cat_app,sl_on (hl n y (Nat.le_refl _) e) hy]
    · rw [dif_neg h]
      obtain rfl:d=0:=by omega
      rw [three_same,Option.bind_some]
      unfold mgo
      rw [ho,←cat_app,sl_end hk]
def withP:List (Nat×Nat)→Nat→Option Nat
  | [],_=>none
  | p :: r,n=>if p.1=n then some p.2 else withP r n
theorem withP_mem:∀ {l:List (Nat×Nat)} {n x:Nat},withP l n=some x→(n,x) ∈ l
  | p :: r, n, x, h => by
    unfold withP at h
    split at h
    · rename_i e
      obtain rfl:=Option.some.inj h
      rw [←e]
      exact List.mem_cons_self
    · exact List.mem_cons_of_mem _ (withP_mem h)
def upP (p q:Nat×Nat):Prop:=p.1<q.1∧p.2<q.2
theorem withP_part {O X : List ByteArray} {l : List (Nat × Nat)} (h1 : ∀ p ∈ l, ∃ (h : p.1 < O.length) (h' : p.2 < X.length), O[p.1] = X[p.2]) (h2 : l.Pairwise upP) : Part O X (withP l) where
  lt:=fun n x e hn=>by
    obtain ⟨a,b,c⟩:=h1 _ (withP_mem e)
    exact ⟨b,fun _=>c⟩
  up := fun n m x y e1 e2 hnm => by
    have m1:=withP_mem e1
    have m2:=withP_mem e2
    have key:∀ (l:List (Nat×Nat)),l.Pairwise upP → ∀ p ∈ l,∀ q ∈ l,p.1<q.1→p.2<q.2:=by
      intro l
      induction l with
      | nil=>exact fun _ p hp=>by cases hp
      | cons a r ih =>
        intro h p hp q hq hpq
        obtain ⟨ha,hr⟩:=List.pairwise_cons.1 h
        rcases List.mem_cons.1 hp with hp1|hp1
        · rcases List.mem_cons.1 hq with hq1 | hq1
          · rw [hp1, hq1] at hpq
            omega
          · rw [hp1]
            exact (ha q hq1).2
        · rcases List.mem_cons.1 hq with hq1 | hq1
          · have := (ha p hp1).1
            rw [hq1] at hpq
            omega
          · exact ih hr p hp1 q hq1 hpq
    exact key l h2 _ m1 _ m2 hnm
def closedL (x:List UInt8):Prop:=∃ a,(10:UInt8) ∉ a∧x=a ++ [10]
def openL (x:List UInt8):Prop:=(10:UInt8) ∉ x∧x ≠ []
def wellL:List (List UInt8)→Prop
  | []=>True
  | x :: r=>(closedL x∨(openL x∧r = []))∧wellL r
theorem wellL_drop:∀ (n:Nat) {l:List (List UInt8)},wellL l→wellL (l.drop n)
  | 0,l,h=>h
  | n+1,[],h=>h
  | n+1,x :: r,h=>wellL_drop n (l:=r) h.2
theorem wellL_take:∀ (n:Nat) {l:List (List UInt8)},wellL l→wellL (l.take n)
  | 0, l, h => by
    rw [List.take_zero]
    trivial
  | n+1,[],h=>h
  | n + 1, x :: r, h => by
    rw [List.take_succ_cons]
    refine ⟨h.1.imp id (fun k=>⟨k.1,?_⟩),wellL_take n h.2⟩
    rw [k.2,List.take_nil]
theorem cutEnd_cons {x:List UInt8} {L:List (List UInt8)} (h:L ≠ []):cutEnd (x :: L)=x :: cutEnd L:=by
  unfold cutEnd
  cases L with
  | nil=>exact absurd rfl h
  | cons y L =>
    rw [List.getLast?_cons_cons]
    split <;> rfl
theorem wellL_lines:∀ {l:List (List UInt8)},wellL l→cutEnd (behind 10 l.flatten [])=l
  | [],_=>rfl
  | x :: r, h => by
    rw [List.flatten_cons]
    rcases h.1 with ⟨a,ha,rfl⟩|⟨⟨ha,hne⟩,rfl⟩
    · rw [List.append_assoc,List.singleton_append,behind_hit 10 _ a [] ha,cutEnd_cons (behind_ne _ _ _),wellL_lines h.2,List.nil_append]
    · rw [List.flatten_nil, List.append_nil, behind_free 10 x [] ha, List.nil_append]
      unfold cutEnd
      rw [List.getLast?_singleton,if_neg (fun e=>hne (Option.some.inj e))]
theorem well_behind:∀ (l cur:List UInt8),(10:UInt8) ∉ cur→wellL (cutEnd (behind 10 l cur))
  | [], cur, h => by
    unfold behind cutEnd
    rw [List.getLast?_singleton]
    split
    · trivial
    · rename_i hne
      exact ⟨.inr ⟨⟨h,fun e=>hne (by rw [e])⟩,rfl⟩,trivial⟩
  | b :: r, cur, h => by
    unfold behind
    split
    · rename_i hb
      rw [cutEnd_cons (behind_ne _ _ _)]
      exact ⟨.inl ⟨cur,h,by rw [hb]⟩,well_behind r [] (by simp)⟩
    · rename_i hb
      refine well_behind r _ (fun hm => ?_)
      rcases List.mem_append.1 hm with hm|hm
      · exact h hm
      · exact hb (List.mem_singleton.1 hm).symm
def wellB (l:List ByteArray):Prop:=wellL (l.map (·.data.toList))
theorem lines_well (s:ByteArray):wellB (lines s):=by
  unfold wellB lines
  split
  · trivial
  · rw [map_ofBytes]
    exact well_behind _ _ (by simp)
theorem lines_len (s : ByteArray) : (lines s).length ≤ 1501 := by
  unfold lines
  split
  · simp
  · rename_i h
    rw [List.length_map]
    have h1:=behind_length 10 s.data.toList []
    have h2:(cutEnd (behind 10 s.data.toList [])).length≤(behind 10 s.data.toList []).length:=by
      unfold cutEnd
      split
      · rw [List.length_dropLast]
        omega
      · exact Nat.le_refl _
    rw [size_toList] at h1
    omega
theorem wellB_sl {l:List ByteArray} (h:wellB l) (i j:Nat):wellB (sl l i j):=by
  unfold wellB sl at *
  rw [List.map_drop,List.map_take]
  exact wellL_drop _ (wellL_take _ h)
theorem map_data_inj {a b:List ByteArray} (h:a.map (·.data.toList)=b.map (·.data.toList)):a=b:=by
  have e:=congrArg (List.map ofBytes) h
  rw [List.map_map,List.map_map] at e
  have i:(ofBytes∘fun x:ByteArray=>x.data.toList)=id:=by
    funext x
    exact ofBytes_of x
  rwa [i,List.map_id,List.map_id] at e
/-- Stretches of lines with one text are the same. -/
theorem cat_inj {a b:List ByteArray} (ha:wellB a) (hb:wellB b) (h:cat a=cat b):a=b:=by
  apply map_data_inj
  have e:(cat a).data.toList=(cat b).data.toList:=by rw [h]
  rw [cat_data,cat_data] at e
  rw [←wellL_lines ha,←wellL_lines hb,e]
/-- Three stretches, told by their lines. -/
def threeL (x y z:List ByteArray):Option ByteArray:=if x=y then some (cat z) else if x=z∨y=z then some (cat y) else none
theorem three_lines {x y z:List ByteArray} (hx:wellB x) (hy:wellB y) (hz:wellB z):three (cat x) (cat y) (cat z)=threeL x y z:=by
  unfold three threeL
  by_cases a:x=y
  · rw [if_pos a,if_pos (by rw [a])]
  · rw [if_neg a, if_neg (fun e => a (cat_inj hx hy (tl_b e).symm))]
    by_cases b:x=z∨y=z
    · rw [if_pos b,if_pos (b.imp (fun e=>by rw [e]) (fun e=>by rw [e]))]
    · rw [if_neg b,if_neg (fun e=>b (e.imp (fun e=>cat_inj hx hz (tl_b e).symm) (fun e=>cat_inj hy hz (tl_b e).symm)))]
/-- What both compute. -/
def pairsN (a b:List ByteArray):List (Nat×Nat):=if a.length>1500∨b.length>1500 then [] else pairs a b (lc a b 0 0) 0 0
def mergeL (O X Y:List ByteArray):Option ByteArray:=mgo O X Y (withP (pairsN O X)) (withP (pairsN O Y)) (O.length+1) 0 0 0 0 ⟨#[]⟩
def mergeT (base a b : ByteArray) : ByteArray × Bool :=
  if base.size>1500∨a.size>1500∨b.size>1500 then (⟨#[]⟩,false) else match mergeL (lines base) (lines a) (lines b) with
    | some s=>(s,true)
    | none=>(⟨#[]⟩,false)
theorem pairsN_part (a b:List ByteArray):Part a b (withP (pairsN a b)):=by
  unfold pairsN
  split
  · exact ⟨(fun n x e=>by cases e),(fun n m x y e=>by cases e)⟩
  · obtain ⟨_, p2, p3⟩ := pairs_ok a b (lc a b 0 0) 0 0 (Nat.zero_le _) (Nat.zero_le _) rfl
    exact withP_part (fun p hp=>by
      obtain ⟨_,_,f1,f2,f3⟩:=p2 p hp
      exact ⟨f1,f2,f3⟩) p3
theorem mergeT_comm (base a b:ByteArray):mergeT base a b=mergeT base b a:=by
  unfold mergeT
  by_cases h:base.size>1500∨a.size>1500∨b.size>1500
  · rw [if_pos h,if_pos (by omega)]
  · rw [if_neg h, if_neg (by omega)]
    unfold mergeL
    rw [mgo_comm]
theorem mergeT_same {base a:ByteArray} (h:¬ (base.size>1500∨a.size>1500)):mergeT base a a=(a,true):=by
  unfold mergeT
  rw [if_neg (by omega)]
  unfold mergeL
  have hp:=pairsN_part (lines base) (lines a)
  rw [mgo_same _ _ _ hp _ 0 0 0 ⟨#[]⟩ (by omega) (fun _ _ _ _=>Nat.zero_le _) (Nat.zero_le _) (by omega) (by rw [List.take_zero];rfl)]
  dsimp only
  rw [lines_cat (by omega)]
/-- A list beside itself: each line's partner is itself. -/
theorem lc_self:∀ (d:Nat) (a:List ByteArray) (i:Nat),i+d=a.length→lc a a i i=d
  | 0,a,i,h=>lc_out1 (by omega)
  | d + 1, a, i, h => by
    have hi:i<a.length:=by omega
    have ih:=lc_self d a (i+1) (by omega)
    have h1:=(lc_le a a _ i (i+1) (Nat.le_refl _)).2
    have h2:=(lc_le a a _ (i+1) i (Nat.le_refl _)).1
    rw [lc_in hi hi,if_pos rfl,ih]
    split <;> split <;> omega
theorem pairs_self (a : List ByteArray) : ∀ (d i : Nat), i + d = a.length → pairs a a d i i = (List.range d).map fun x => (i + x, i + x)
  | 0,i,h=>rfl
  | d + 1, i, h => by
    have hi:i<a.length:=by omega
    have e:pairFirst a a (d+1) i (a.length - i) i=some (i,i):=by
      rw [show a.length - i=d+1 from by omega]
      unfold pairFirst
      have er:rowFirst a a (d+1) i (a.length - i) i=some i:=by
        rw [show a.length - i=d+1 from by omega]
        unfold rowFirst
        rw [if_pos ⟨rfl,by rw [lc_self d a (i+1) (by omega)]⟩]
      rw [er]
    unfold pairs
    rw [e]
    dsimp only
    rw [pairs_self a d (i+1) (by omega),List.range_succ_eq_map,List.map_cons,List.map_map]
    congr 1
    apply List.map_congr_left
    intro x _
    simp only [Function.comp,Nat.succ_eq_add_one]
    congr 1 <;> omega
theorem withP_diag : ∀ (d i n : Nat), i ≤ n → n < i + d → withP ((List.range d).map fun x => (i + x, i + x)) n = some n
  | 0,i,n,h1,h2=>by omega
  | d + 1, i, n, h1, h2 => by
    rw [List.range_succ_eq_map,List.map_cons,List.map_map]
    unfold withP
    by_cases e:i=n
    · rw [if_pos (by simpa using e)]
      simp [e]
    · rw [if_neg (by simpa using e)]
      have:=withP_diag d (i+1) n (by omega) (by omega)
      have e2:((fun x=>(i+x,i+x))∘Nat.succ)=fun x=>(i+1+x,i+1+x):=by
        funext x
        simp only [Function.comp,Nat.succ_eq_add_one]
        congr 1 <;> omega
      rw [e2]
      exact this
theorem mgo_congr (O X Y : List ByteArray) {f f' g : Nat → Option Nat} (h : ∀ n, n < O.length → f n = f' n) : ∀ (d n i j k : Nat) (out : ByteArray), mgo O X Y f g d n i j k out = mgo O X Y f' g d n i j k out
  | 0,_,_,_,_,_=>rfl
  | d + 1, n, i, j, k, out => by
    unfold mgo
    by_cases hn:n<O.length
    · rw [dif_pos hn, dif_pos hn, h n hn]
      cases f' n with
      | none=>exact mgo_congr O X Y h d _ _ _ _ _
      | some x =>
        cases g n with
        | none=>exact mgo_congr O X Y h d _ _ _ _ _
        | some y =>
          dsimp only
          congr 1
          funext s
          exact mgo_congr O X Y h d _ _ _ _ _
    · rw [dif_neg hn, dif_neg hn]
      congr 1
      funext s
      exact mgo_congr O X Y h d _ _ _ _ _
theorem lines_le {s : ByteArray} : (lines s).length ≤ 1500 := by
  unfold lines
  split
  · simp
  · rename_i h
    rw [List.length_map]
    have key:∀ L:List (List UInt8),wellL L→L.length≤L.flatten.length:=by
      intro L
      induction L with
      | nil=>simp
      | cons x r ih =>
        intro hw
        have:=ih hw.2
        have hx:1≤x.length:=by
          rcases hw.1 with ⟨a,_,rfl⟩|⟨⟨_,hne⟩,_⟩
          · simp
          · exact List.length_pos_iff.2 hne
        rw [List.flatten_cons,List.length_cons,List.length_append]
        omega
    have:=key _ (well_behind s.data.toList [] (by simp))
    rw [cutEnd_flat,behind_flat,List.nil_append,size_toList] at this
    omega
theorem mergeT_left {base b:ByteArray} (h:¬ (base.size>1500∨b.size>1500)):mergeT base base b=(b,true):=by
  unfold mergeT
  rw [if_neg (by omega)]
  unfold mergeL
  have hp:=pairsN_part (lines base) (lines b)
  have hl:=lines_le (s:=base)
  have e:∀ n,n<(lines base).length→withP (pairsN (lines base) (lines base)) n=(fun n=>some n) n:=by
    intro n hn
    have e1:pairsN (lines base) (lines base)=(List.range (lines base).length).map fun x=>(0+x,0+x):=by
      unfold pairsN
      rw [if_neg (by omega),lc_self (lines base).length _ 0 (by omega),pairs_self _ _ 0 (by omega)]
    rw [e1,withP_diag _ 0 n (by omega) (by omega)]
  rw [mgo_congr _ _ _ e,mgo_left _ _ _ hp _ 0 0 0 ⟨#[]⟩ (by omega) (fun _ _ _ _=>Nat.zero_le _) (Nat.zero_le _) (Nat.le_refl _) (by omega) (by rw [List.take_zero];rfl)]
  dsimp only
  rw [lines_cat (by omega)]

end Go.Proofs.YtkmfnmeilooogaaDoor.Pure


namespace Go.Proofs.YtkmfnmeilooogaaDoor.Pure
open Go Go.RowKit Go.Proofs.YtkmfnmeilooogaaDoor.P Go.Proofs.YtkmfnmeilooogaaDoorW.PrintWords Go.Proofs.YtkmfnmeilooogaaDoorW.PrintLast
set_option linter.unusedVariables false
set_option linter.unusedSimpArgs false

/-- The bytes, cut behind each c; what is left stands last, be it empty. -/
theorem splitK_behind (c : UInt8) : ∀ (m : Nat) (l : List UInt8), l.length ≤ m → Go.Lib.splitK [c] 1 (l.count c) l = behind c l [] := by
  intro m
  induction m with
  | zero =>
    intro l hl
    obtain rfl:l = []:=List.length_eq_zero_iff.1 (by omega)
    rfl
  | succ m ih =>
    intro l hl
    rcases index_one c l with ⟨h1,h2⟩|⟨a,r,h1,h2,h3⟩
    · rw [behind_free c l [] h2, List.count_eq_zero_of_not_mem h2]
      rfl
    · have hcount : l.count c = r.count c + 1 := by
        rw [h1,List.count_append,List.count_cons_self,List.count_eq_zero_of_not_mem h2]
        omega
      rw [hcount,Go.Lib.splitK,if_neg (by rw [h3];simp),h3,h1,behind_hit c r a [] h2]
      have e1:(a++c :: r).take ((a.length:Int).toNat+1)=a ++ [c]:=by
        rw [Int.toNat_natCast,List.take_append,List.take_of_length_le (by omega),Nat.add_sub_cancel_left]
        rfl
      have e2:(a++c :: r).drop ((a.length:Int).toNat + [c].length)=r:=by simp
      rw [e1,e2,ih r (by rw [h1,List.length_append,List.length_cons] at hl;omega)]
      rfl
def behindB (c:UInt8) (s:ByteArray):List ByteArray:=(behind c s.data.toList []).map ofBytes
theorem splitAfter_eq (c:UInt8) (s:ByteArray) (hs:s.size<4294967281):strings_SplitAfter.f s ⟨#[c]⟩=some (behindB c s):=by
  unfold strings_SplitAfter.f
  rw [if_pos hs,if_pos (by simp [ByteArray.size])]
  congr 1
  have:=splitB_one c 1 (by omega) s.size s (Nat.le_refl _)
  rw [if_neg (by omega),splitK_behind c _ _ (Nat.le_refl _)] at this
  unfold behindB
  rw [←this,List.map_map]
  have:(ofBytes∘fun x:ByteArray=>x.data.toList)=id:=by
    funext x
    exact ofBytes_of x
  rw [this,List.map_id]
  rfl

end Go.Proofs.YtkmfnmeilooogaaDoor.Pure


namespace Go.Proofs.YtkmfnmeilooogaaDoor.Pure
open Go Go.RowKit Go.Proofs.YtkmfnmeilooogaaDoor.P Go.Proofs.YtkmfnmeilooogaaDoorW.PrintWords Go.Proofs.YtkmfnmeilooogaaDoorW.PrintLast
set_option linter.unusedVariables false
set_option linter.unusedSimpArgs false

theorem rdLI {l:List ByteArray} {i:Nat} (h:i<l.length):rdOf ByteArray.empty l (i:Int)=l[i]:=by
  unfold rdOf
  rw [Int.toNat_natCast,List.getD_eq_getElem?_getD,List.getElem?_eq_getElem h]
  rfl
theorem impl_Lines_now (s:ByteArray) (hs:s.size≤1048576):impl_Lines.f s=some (lines s):=by
  unfold impl_Lines.f lines
  by_cases h:(s.size:Int)>1500
  · rw [if_pos h,if_pos h]
  rw [if_neg h,if_neg h,splitAfter_eq 10 s (by omega),Option.bind_some]
  have hl:(behindB 10 s).length≤s.size+1:=by
    unfold behindB
    rw [List.length_map,←size_toList]
    exact behind_length 10 _ _
  have hn:(behind 10 s.data.toList []) ≠ []:=behind_ne 10 _ _
  unfold behindB at hl ⊢
  revert hn hl
  generalize behind 10 s.data.toList []=L
  intro hl hn
  obtain ⟨M,x,rfl⟩:∃ M x,L=M ++ [x]:=⟨L.dropLast,L.getLast hn,(List.dropLast_concat_getLast hn).symm⟩
  have hlen:((M ++ [x]).map ofBytes).length=M.length+1:=by simp
  rw [hlen] at hl ⊢
  rw [w64 (n:=((M.length+1:Nat):Int) - 1) (by omega) (by omega),show ((M.length+1:Nat):Int) - 1=((M.length:Nat):Int) from by omega,if_pos (by omega),if_pos (by omega),rdLI (by omega)]
  have hx:((M ++ [x]).map ofBytes)[M.length]'(by omega)=ofBytes x:=by simp
  rw [hx,ByteArray.toList_eq,ofBytes_data]
  unfold cutEnd
  rw [List.getLast?_concat,List.dropLast_concat,Int.toNat_natCast]
  by_cases he:x = []
  · rw [if_pos he,if_pos (by omega),if_pos (by rw [he]),List.map_append,List.take_append_of_le_length (by simp),List.take_of_length_le (by simp)]
  · rw [if_neg he,if_neg (fun e=>he (Option.some.inj e))]

end Go.Proofs.YtkmfnmeilooogaaDoor.Pure


namespace Go.Proofs.YtkmfnmeilooogaaDoor.P
open Go.RowKit Go.Proofs.YtkmfnmeilooogaaDoorW.PrintWords Go.Proofs.YtkmfnmeilooogaaDoorW.PrintLast Go.Proofs.YtkmfnmeilooogaaDoorW.PrintMore
attribute [local go_sem] max2_int min2_int max_two min_two max_three min_three max_four min_four
set_option linter.unusedVariables false
set_option linter.unusedSimpArgs false

theorem isf118_ {w0 W:World} {g:Nat} {f0:List Int} {f1:Int} {p:Addr} {u:Value} (zz1_:IsS118 w0 W g f0 f1) (zz2_:g≠p.block):IsS118 w0 (W.setCell p u) g f0 f1:=IsS118.far zz1_ zz2_ u
theorem iq118 {p q:Prop} (h:q) (f:q→p:=by intro h_;repeat' (first|(with_reducible exact h_)|(with_reducible first|apply IsS118.alloc|apply IsS118.drewN|apply IsS118.drew|apply IsS118.set_1|apply isf118_)|(with_reducible exact Aside0.out (by assumption))|exact h_)):p:=f h
theorem bq118 {p q z:Prop} (h:q) (hi:z) (f:q→z→p:=by intro h_ i_;repeat' (first|(with_reducible exact h_)|(with_reducible first|apply below_alloc|apply pw_below_drewN|apply below_drew1|apply bsq_)|(with_reducible exact Aside0.out (by assumption))|(with_reducible exact IsS118.ge i_)|exact h_)):p:=f h hi
theorem ra118 {w0 W:World} {g:Nat} {f0:List Int} {f1:Int} {W1:World} {α:Type} {d:Kd α} {e base:Nat} {ok:Nat→Prop} {v:Value} {xs:List α} (h:IsS118 w0 W g f0 f1) (ho:d.R e W base ok v xs) (hk:KeepBut W W1 g none) (ht:∀ q,q ∈ e :: d.E→q≠118:=by decide):d.R e W1 base ok v xs:=Kd.R_mono (Kd.R_keep (IsS118.apart h ho ht) hk (fun _ h=>h.2)) (fun _ h=>h.1)

end Go.Proofs.YtkmfnmeilooogaaDoor.P


namespace Go.Proofs.YtkmfnmeilooogaaDoor.Pure
open Go Go.RowKit Go.Proofs.YtkmfnmeilooogaaDoor.P Go.Proofs.YtkmfnmeilooogaaDoorW.PrintWords Go.Proofs.YtkmfnmeilooogaaDoorW.PrintLast
set_option linter.unusedVariables false
set_option linter.unusedSimpArgs false

theorem map_range_set {α:Type} (f:Nat→α) (n i:Nat) (v:α):((List.range n).map f).set i v=(List.range n).map (fun a=>if a=i then v else f a):=by
  apply List.ext_getElem
  · simp
  · intro j h1 h2
    simp only [List.length_set,List.length_map,List.length_range] at h1
    rw [List.getElem_set,List.getElem_map,List.getElem_range]
    split
    · rename_i h
      rw [List.getElem_map,List.getElem_range,if_pos h.symm]
    · rename_i h
      rw [List.getElem_map,List.getElem_range,if_neg (fun e=>h e.symm)]
theorem replicate_range {α:Type} (n:Nat) (v:α):List.replicate n v=(List.range n).map (fun _=>v):=by
  apply List.ext_getElem <;> simp
theorem map_range_congr {α:Type} {f g:Nat→α} (n:Nat) (h:∀ a,a<n→f a=g a):(List.range n).map f=(List.range n).map g:=by
  apply List.map_congr_left
  intro a ha
  exact h a (List.mem_range.1 ha)
theorem rdL4_map (f:Nat→List Int) {n a:Nat} (h:a<n):rd_L2 ((List.range n).map f) (a:Int)=f a:=by
  unfold rd_L2
  rw [Int.toNat_natCast,List.getD_eq_getElem?_getD,List.getElem?_map,List.getElem?_range h]
  rfl
theorem rd_map (f:Nat→Int) {n a:Nat} (h:a<n):rd ((List.range n).map f) (a:Int)=f a:=by
  unfold rd
  rw [Int.toNat_natCast,List.getD_eq_getElem?_getD,List.getElem?_map,List.getElem?_range h]
  rfl
section
variable (a b:List ByteArray)
/-- A row that is done behind e. -/
def prow (i e:Nat):List Int:=(List.range (b.length+1)).map fun j=>if e≤j then (lc a b i j:Int) else 0
/-- The table: rows behind i done, row i behind e. -/
def tabAt (i e:Nat):List (List Int):=(List.range (a.length+1)).map fun x=>if i<x then prow a b x 0 else if x=i then prow a b i e else []
def tabBehind (d:Nat):List (List Int):=(List.range (a.length+1)).map fun x=>if d≤x then prow a b x 0 else []
variable {a b}
theorem prow_len (i e:Nat):(prow a b i e).length=b.length+1:=by simp [prow]
theorem tabAt_len (i e:Nat):(tabAt a b i e).length=a.length+1:=by simp [tabAt]
theorem tabBehind_len (d:Nat):(tabBehind a b d).length=a.length+1:=by simp [tabBehind]
theorem tabAt_zero (i:Nat):tabAt a b i 0=tabBehind a b i:=by
  apply map_range_congr
  intro x _
  by_cases h:i<x
  · rw [if_pos h,if_pos (by omega)]
  · rw [if_neg h]
    by_cases e:x=i
    · rw [if_pos e,if_pos (by omega),e]
    · rw [if_neg e,if_neg (by omega)]
theorem tab_start (i:Nat) (h:i<a.length):(tabBehind a b (i+1)).set i (List.replicate (b.length+1) 0)=tabAt a b i b.length:=by
  unfold tabBehind tabAt
  rw [map_range_set]
  apply map_range_congr
  intro x _
  by_cases e:x=i
  · rw [if_pos e, if_neg (by omega), if_pos e, replicate_range]
    apply map_range_congr
    intro j hj
    by_cases q:b.length≤j
    · rw [if_pos q, lc_out2 (by omega)]
      rfl
    · rw [if_neg q]
  · rw [if_neg e]
    by_cases q:i+1≤x
    · rw [if_pos q,if_pos (by omega)]
    · rw [if_neg q,if_neg (by omega),if_neg e]
theorem tab_first:(List.replicate (a.length+1) ([]:List Int)).set a.length (List.replicate (b.length+1) 0)=tabBehind a b a.length:=by
  rw [replicate_range,map_range_set]
  apply map_range_congr
  intro x hx
  by_cases e:x=a.length
  · rw [if_pos e, if_pos (by omega), replicate_range, e]
    apply map_range_congr
    intro j _
    rw [if_pos (by omega),lc_out1 (by omega)]
    rfl
  · rw [if_neg e,if_neg (by omega)]
theorem prow_put {i e:Nat} {v:Int} (hv:(lc a b i e:Int)=v):(prow a b i (e+1)).set e v=prow a b i e:=by
  unfold prow
  rw [map_range_set]
  apply map_range_congr
  intro j _
  by_cases h:j=e
  · rw [if_pos h,if_pos (by omega),h,hv]
  · rw [if_neg h]
    by_cases q:e+1≤j
    · rw [if_pos q,if_pos (by omega)]
    · rw [if_neg q,if_neg (by omega)]
theorem tab_put {i e:Nat} {v:Int} (hv:(lc a b i e:Int)=v):(tabAt a b i (e+1)).set i ((prow a b i (e+1)).set e v)=tabAt a b i e:=by
  rw [prow_put hv]
  unfold tabAt
  rw [map_range_set]
  apply map_range_congr
  intro x _
  by_cases h:x=i
  · rw [if_pos h,if_neg (by omega),if_pos h]
  · rw [if_neg h]
    by_cases q:i<x
    · rw [if_pos q,if_pos q]
    · rw [if_neg q,if_neg q,if_neg h,if_neg h]
theorem tab_row1 {i e:Nat} (h:i<a.length):rd_L2 (tabAt a b i e) ((i+1:Nat):Int)=prow a b (i+1) 0:=by
  unfold tabAt
  rw [rdL4_map _ (by omega),if_pos (by omega)]
theorem tab_row0 {i e:Nat} (h:i<a.length):rd_L2 (tabAt a b i e) (i:Int)=prow a b i e:=by
  unfold tabAt
  rw [rdL4_map _ (by omega),if_neg (by omega),if_pos rfl]
theorem prow_rd {i e j:Nat} (h:j≤b.length) (he:e≤j):rd (prow a b i e) (j:Int)=lc a b i j:=by
  unfold prow
  rw [rd_map _ (by omega),if_pos he]
theorem tl_inj {x y:ByteArray} (h:x.toList=y.toList):x=y:=by
  rw [ByteArray.toList_eq,ByteArray.toList_eq] at h
  exact ba_ext h
theorem lc_int {i j:Nat} (h:i<a.length) (h':j<b.length):(lc a b i j:Int) =
    (if (lc a b i (j+1):Int)>(lc a b (i+1) j:Int) then (if a[i].toList=b[j].toList then (if (lc a b (i+1) (j+1):Int)+1>(lc a b i (j+1):Int) then (lc a b (i+1) (j+1):Int)+1 else (lc a b i (j+1):Int)) else (lc a b i (j+1):Int))
    else (if a[i].toList=b[j].toList then (if (lc a b (i+1) (j+1):Int)+1>(lc a b (i+1) j:Int) then (lc a b (i+1) (j+1):Int)+1 else (lc a b (i+1) j:Int)) else (lc a b (i+1) j:Int))):=by
  rw [lc_in h h']
  have e:(a[i]=b[j])=(a[i].toList=b[j].toList):=propext ⟨fun h=>by rw [h],tl_inj⟩
  simp only [e]
  by_cases q:lc a b i (j+1)>lc a b (i+1) j
  · rw [if_pos q, if_pos (show (lc a b i (j + 1) : Int) > (lc a b (i + 1) j : Int) by omega)]
    split
    · split <;> split <;> omega
    · rfl
  · rw [if_neg q, if_neg (show ¬ (lc a b i (j + 1) : Int) > (lc a b (i + 1) j : Int) by omega)]
    split
    · split <;> split <;> omega
    · rfl
variable (ha:a.length≤1500) (hb:b.length≤1500)
include ha hb
theorem l7Table_l1 {i : Nat} (hi : i < a.length) : ∀ (e : Nat) (R : List (List Int)), e ≤ b.length → Ev (fun k => spec_l7Table.l0 k a b (tabAt a b i 0) ((i : Int) - 1)) R → Ev (fun k => spec_l7Table.l1 k a b (tabAt a b i e) (i : Int) ((e : Int) - 1)) R
  | 0,R,_,hR=>Ev.step (fun k=>spec_l7Table.l1.eq_2 ..) (Ev.neg (by omega) (by
      rw [w64 (by omega) (by omega)]
      exact hR))
  | e + 1, R, he, hR => by
    have ih:=l7Table_l1 hi e R (by omega) hR
    have hle:∀ x y,(lc a b x y:Int)≤1500∧0≤(lc a b x y:Int):=fun x y=>by
      have:=(lc_le a b _ x y (Nat.le_refl _)).1
      omega
    have q1:=hle i (e+1)
    have q2:=hle (i+1) e
    have q3:=hle (i+1) (e+1)
    refine Ev.step (fun k=>spec_l7Table.l1.eq_2 ..) ?_
    rw [show (((e+1:Nat):Int) - 1)=(e:Int) from by omega,w64 (n:=(i:Int)+1) (by omega) (by omega),w64 (n:=(e:Int)+1) (by omega) (by omega),show (i:Int)+1=((i+1:Nat):Int) from rfl,show (e:Int)+1=((e+1:Nat):Int) from rfl,tab_row1 hi,tab_row0 hi,prow_len,prow_len,tabAt_len,prow_rd (show e+1≤b.length from he) (Nat.le_refl _),prow_rd (Nat.le_of_lt (show e<b.length from he)) (Nat.zero_le _),prow_rd (show e+1≤b.length from he) (Nat.zero_le _),Int.toNat_natCast,Int.toNat_natCast,rd_of hi,rd_of (show e<b.length from he),w64 (n:=(lc a b (i+1) (e+1):Int)+1) (by omega) (by omega),w64 (n:=(e:Int) - 1) (by omega) (by omega)]
    refine Ev.pos (by omega) (Ev.pos (by omega) (Ev.pos (by omega) (Ev.pos (by omega) (Ev.pos (by omega) (Ev.pos (by omega) (Ev.pos (by omega) (Ev.pos (by omega) (Ev.pos (by omega) ?_))))))))
    have hv:=lc_int hi (show e<b.length from he)
    by_cases c1:(lc a b i (e+1):Int)>(lc a b (i+1) e:Int)
    · rw [if_pos c1] at hv
      refine Ev.pos c1 (Ev.pos (by omega) (Ev.pos (by omega) ?_))
      by_cases c2:a[i].toList=b[e].toList
      · rw [if_pos c2] at hv
        refine Ev.pos c2 (Ev.pos (by omega) ?_)
        by_cases c3:(lc a b (i+1) (e+1):Int)+1>(lc a b i (e+1):Int)
        · rw [if_pos c3] at hv
          refine Ev.pos c3 (Ev.pos (by omega) ?_)
          rw [tab_put hv]
          exact ih
        · rw [if_neg c3] at hv
          refine Ev.neg c3 (Ev.pos (by omega) ?_)
          rw [tab_put hv]
          exact ih
      · rw [if_neg c2] at hv
        refine Ev.neg c2 (Ev.pos (by omega) ?_)
        rw [tab_put hv]
        exact ih
    · rw [if_neg c1] at hv
      refine Ev.neg c1 (Ev.pos (by omega) (Ev.pos (by omega) ?_))
      by_cases c2:a[i].toList=b[e].toList
      · rw [if_pos c2] at hv
        refine Ev.pos c2 (Ev.pos (by omega) ?_)
        by_cases c3:(lc a b (i+1) (e+1):Int)+1>(lc a b (i+1) e:Int)
        · rw [if_pos c3] at hv
          refine Ev.pos c3 (Ev.pos (by omega) ?_)
          rw [tab_put hv]
          exact ih
        · rw [if_neg c3] at hv
          refine Ev.neg c3 (Ev.pos (by omega) ?_)
          rw [tab_put hv]
          exact ih
      · rw [if_neg c2] at hv
        refine Ev.neg c2 (Ev.pos (by omega) ?_)
        rw [tab_put hv]
        exact ih
theorem l7Table_l0:∀ d:Nat,d≤a.length→Ev (fun k=>spec_l7Table.l0 k a b (tabBehind a b d) ((d:Int) - 1)) (tabBehind a b 0)
  | 0,_=>Ev.step (fun k=>spec_l7Table.l0.eq_2 ..) (Ev.neg (by omega) (Ev.now _))
  | d + 1, hd => by
    have ih:=l7Table_l0 d (by omega)
    refine Ev.step (fun k=>spec_l7Table.l0.eq_2 ..) ?_
    rw [show (((d+1:Nat):Int) - 1)=(d:Int) from by omega,w64 (n:=(b.length:Int)+1) (by omega) (by omega),w64 (n:=(b.length:Int) - 1) (by omega) (by omega),tabBehind_len,Int.toNat_natCast,show ((b.length:Int)+1).toNat=b.length+1 from by omega,tab_start d (by omega)]
    refine Ev.pos (by omega) (Ev.pos (by omega) (Ev.pos (by omega) (Ev.pos (by omega) (Ev.pos (by omega) ?_))))
    refine l7Table_l1 ha hb (show d<a.length from hd) b.length _ (Nat.le_refl _) ?_
    rw [tabAt_zero]
    exact ih
theorem l7Table_ev:Ev (fun k=>spec_l7Table.f k a b) (tabBehind a b 0):=by
  unfold spec_l7Table.f
  rw [w64 (n:=(a.length:Int)+1) (by omega) (by omega),w64 (n:=(b.length:Int)+1) (by omega) (by omega),show ((a.length:Int)+1).toNat=a.length+1 from by omega,show ((b.length:Int)+1).toNat=b.length+1 from by omega,w64 (n:=(a.length:Int) - 1) (by omega) (by omega)]
  refine Ev.pos (by omega) (Ev.pos (by omega) (Ev.sb (Ev.pos (by omega) (Ev.pos (by omega) (Ev.pos (by omega) (Ev.pos (by rw [List.length_replicate];omega) ?_))))))
  rw [Int.toNat_natCast,tab_first]
  exact l7Table_l0 ha hb a.length (Nat.le_refl _)
omit ha hb in
theorem full_rd {i j:Nat} (hi:i≤a.length) (hj:j≤b.length):rd (rd_L2 (tabBehind a b 0) (i:Int)) (j:Int)=lc a b i j∧(rd_L2 (tabBehind a b 0) (i:Int)).length=b.length+1:=by
  unfold tabBehind
  rw [rdL4_map _ (by omega),if_pos (by omega),prow_rd hj (Nat.zero_le _),prow_len]
  exact ⟨rfl,rfl⟩
omit ha hb in
theorem rowFirst_step {n x d y:Nat} (hx:x<a.length) (hy:y<b.length):rowFirst a b n x (d+1) y=if a[x].toList=b[y].toList then (if lc a b (x+1) (y+1)+1=n then some y else rowFirst a b n x d (y+1)) else rowFirst a b n x d (y+1):=by
  show (if _ then _ else _)=_
  rw [rd_of hx,rd_of hy]
  by_cases h:a[x].toList=b[y].toList
  · rw [if_pos h]
    by_cases q:lc a b (x+1) (y+1)+1=n
    · rw [if_pos q,if_pos ⟨tl_inj h,q⟩]
    · rw [if_neg q,if_neg (fun z=>q z.2)]
  · rw [if_neg h,if_neg (fun z=>h (by rw [z.1]))]
theorem first_l1 {i j n : Nat} (hi : i ≤ a.length) (hj : j ≤ b.length) (hn : lc a b i j = n) (p : Nat × Nat) {x dx : Nat} (hx : x < a.length) (hnext : ∀ q, pairFirst a b n j dx (x + 1) = some q → Ev (fun k => spec_l7First.l0 k a b (tabBehind a b 0) (i : Int) (j : Int) ((x + 1 : Nat) : Int)) ((q.1 : Int), (q.2 : Int))) : ∀ (d y : Nat), y + d = b.length →
    (match rowFirst a b n x d y with
      | some z=>some (x,z)
      | none=>pairFirst a b n j dx (x+1))=some p→Ev (fun k=>spec_l7First.l1 k a b (tabBehind a b 0) (i:Int) (j:Int) (x:Int) (y:Int)) ((p.1:Int),(p.2:Int))
  | 0, y, hd, hp => by
    refine Ev.step (fun k=>spec_l7First.l1.eq_2 ..) (Ev.neg (by omega) ?_)
    rw [w64 (n:=(x:Int)+1) (by omega) (by omega)]
    exact hnext p hp
  | d + 1, y, hd, hp => by
    have hy:y<b.length:=by omega
    have hle:=(lc_le a b _ (x+1) (y+1) (Nat.le_refl _)).1
    refine Ev.step (fun k=>spec_l7First.l1.eq_2 ..) ?_
    rw [w64 (n:=(x:Int)+1) (by omega) (by omega),w64 (n:=(y:Int)+1) (by omega) (by omega),show (x:Int)+1=((x+1:Nat):Int) from rfl,show (y:Int)+1=((y+1:Nat):Int) from rfl,(full_rd (show x+1≤a.length from hx) (show y+1≤b.length from hy)).1,(full_rd (show x+1≤a.length from hx) (show y+1≤b.length from hy)).2,(full_rd hi hj).1,(full_rd hi hj).2,tabBehind_len,rd_of hx,rd_of hy,w64 (n:=(lc a b (x+1) (y+1):Int)+1) (by omega) (by omega)]
    rw [rowFirst_step hx hy] at hp
    refine Ev.pos (by omega) (Ev.pos (by omega) (Ev.pos (by omega) (Ev.pos (by omega) ?_)))
    by_cases c1:a[x].toList=b[y].toList
    · rw [if_pos c1] at hp
      refine Ev.pos c1 (Ev.pos (by omega) (Ev.pos (by omega) (Ev.pos (by omega) (Ev.pos (by omega) (Ev.pos (by omega) (Ev.pos (by omega) (Ev.pos (by omega) (Ev.pos (by omega) ?_))))))))
      by_cases c2:lc a b (x+1) (y+1)+1=n
      · rw [if_pos c2] at hp
        obtain rfl:=Option.some.inj hp
        exact Ev.pos (by omega) (Ev.now _)
      · rw [if_neg c2] at hp
        exact Ev.neg (by omega) (first_l1 hi hj hn p hx hnext d (y+1) (by omega) hp)
    · rw [if_neg c1] at hp
      exact Ev.neg c1 (first_l1 hi hj hn p hx hnext d (y+1) (by omega) hp)
theorem first_l0 {i j n:Nat} (hi:i≤a.length) (hj:j≤b.length) (hn:lc a b i j=n):∀ (d x:Nat) (p:Nat×Nat),x+d=a.length→pairFirst a b n j d x=some p→Ev (fun k=>spec_l7First.l0 k a b (tabBehind a b 0) (i:Int) (j:Int) (x:Int)) ((p.1:Int),(p.2:Int))
  | 0,x,p,hd,hp=>by cases hp
  | d + 1, x, p, hd, hp => by
    refine Ev.step (fun k=>spec_l7First.l0.eq_2 ..) (Ev.pos (by omega) ?_)
    exact first_l1 ha hb hi hj hn p (by omega) (fun q hq=>first_l0 hi hj hn d (x+1) q (by omega) hq) _ _ (by omega) hp
theorem common_l0 : ∀ (n i j : Nat) (out : List S63), i ≤ a.length → j ≤ b.length → lc a b i j = n → out.length + n ≤ 1500 → Ev (fun k => spec_Common.l0 k a b out (tabBehind a b 0) (i : Int) (j : Int)) (out ++ (pairs a b n i j).map fun p => (⟨(p.1 : Int), (p.2 : Int)⟩ : S63))
  | 0, i, j, out, hi, hj, hn, ho => by
    refine Ev.step (fun k=>spec_Common.l0.eq_2 ..) ?_
    rw [(full_rd hi hj).1,(full_rd hi hj).2,tabBehind_len,hn,show pairs a b 0 i j = [] from by unfold pairs;rfl,List.map_nil,List.append_nil]
    exact Ev.pos (by omega) (Ev.pos (by omega) (Ev.pos (by omega) (Ev.pos (by omega) (Ev.neg (by omega) (Ev.now _)))))
  | n + 1, i, j, out, hi, hj, hn, ho => by
    obtain ⟨x,y,h1,h2,h3⟩:=lc_goes a b _ i j (Nat.le_refl _) (by omega)
    rw [hn] at h3
    obtain ⟨p,hp⟩:=pairFirst_there hj (a.length - i) i (by omega) ⟨x,y,h1,h2,h3⟩
    obtain ⟨g1,g2,gx,gy,_,g3⟩:=pairFirst_some _ _ _ (by omega) hp
    refine Ev.step (fun k=>spec_Common.l0.eq_2 ..) ?_
    rw [(full_rd hi hj).1,(full_rd hi hj).2,tabBehind_len,hn]
    refine Ev.pos (by omega) (Ev.pos (by omega) (Ev.pos (by omega) (Ev.pos (by omega) (Ev.pos (by omega) (Ev.bind (a:=((p.1:Int),(p.2:Int))) ?_ ?_)))))
    · unfold spec_l7First.f
      exact first_l0 ha hb hi hj hn _ _ _ (by omega) hp
    · refine Ev.pos (by omega) ?_
      rw [w64 (by omega) (by omega),w64 (by omega) (by omega),show pairs a b (n+1) i j=(match pairFirst a b (n+1) j (a.length - i) i with
        | some p=>p :: pairs a b n (p.1+1) (p.2+1)
        | none => []) from rfl,hp]
      have ih:=common_l0 n (p.1+1) (p.2+1) (out ++ [⟨(p.1:Int),(p.2:Int)⟩]) (by omega) (by omega) (by omega) (by rw [List.length_append,List.length_singleton];omega)
      rw [List.append_assoc] at ih
      exact ih
end
/-- What both compute. -/
def common (a b:List ByteArray):List S63:=if a.length>1500∨b.length>1500 then [] else (pairs a b (lc a b 0 0) 0 0).map fun p=>⟨(p.1:Int),(p.2:Int)⟩
theorem spec_Common_ev (a b:List ByteArray):Ev (fun k=>spec_Common.f k a b) (common a b):=by
  unfold spec_Common.f common
  refine Ev.sb ?_
  by_cases h1:a.length>1500
  · rw [if_pos (.inl h1)]
    exact Ev.pos (by omega) (Ev.step (fun k=>spec_Common.j0.eq_2 ..) (Ev.pos rfl (Ev.now _)))
  · refine Ev.neg (by omega) (Ev.step (fun k => spec_Common.j0.eq_2 ..) ?_)
    by_cases h2:b.length>1500
    · rw [if_pos (.inr h2)]
      exact Ev.pos (by simp;omega) (Ev.now _)
    · rw [if_neg (by omega)]
      refine Ev.neg (by simp;omega) (Ev.bind (l7Table_ev (by omega) (by omega)) ?_)
      have:=common_l0 (a:=a) (b:=b) (by omega) (by omega) _ 0 0 [] (Nat.zero_le _) (Nat.zero_le _) rfl (by have:=(lc_le a b _ 0 0 (Nat.le_refl _)).1;simp;omega)
      exact this
theorem common_len (a b : List ByteArray) : (common a b).length ≤ 1500 := by
  unfold common
  split
  · simp
  · rename_i h
    rw [List.length_map]
    have key:∀ n i j,(pairs a b n i j).length≤n:=by
      intro n
      induction n with
      | zero=>intro i j;unfold pairs;simp
      | succ n ih =>
        intro i j
        show (match pairFirst a b (n+1) j (a.length - i) i with
          | some p=>p :: pairs a b n (p.1+1) (p.2+1)
          | none => []).length≤n+1
        split
        · rw [List.length_cons]
          have:=ih (‹Nat×Nat›.1+1) (‹Nat×Nat›.2+1)
          omega
        · simp
    have:=key (lc a b 0 0) 0 0
    have:=(lc_le a b _ 0 0 (Nat.le_refl _)).1
    omega

end Go.Proofs.YtkmfnmeilooogaaDoor.Pure


namespace Go.Proofs.YtkmfnmeilooogaaDoor.Pure
open Go Go.RowKit Go.Proofs.YtkmfnmeilooogaaDoor.P Go.Proofs.YtkmfnmeilooogaaDoorW.PrintWords Go.Proofs.YtkmfnmeilooogaaDoorW.PrintLast
set_option linter.unusedVariables false
set_option linter.unusedSimpArgs false

def prP (l:List (Nat×Nat)):List S63:=l.map fun p=>⟨(p.1:Int),(p.2:Int)⟩
theorem common_prP (O X:List ByteArray):common O X=prP (pairsN O X):=by
  unfold common pairsN prP
  split <;> rfl
theorem rdPP {l:List (Nat×Nat)} {i:Nat} (h:i<l.length):rd_T63 (prP l) (i:Int)=⟨(l[i].1:Int),(l[i].2:Int)⟩:=by
  unfold rd_T63 prP
  rw [Int.toNat_natCast,List.getD_eq_getElem?_getD,List.getElem?_map,List.getElem?_eq_getElem h]
  rfl
def wv:Option Nat→Int
  | none => -1
  | some x=>(x:Int)
theorem with_l0 (l:List (Nat×Nat)) (hl:l.length≤1500) (n:Nat):∀ (d i:Nat),i+d=l.length→Ev (fun k=>spec_l7With.l0 k (prP l) (n:Int) (i:Int)) (wv (withP (l.drop i) n))
  | 0, i, hd => by
    rw [List.drop_of_length_le (by omega)]
    exact Ev.step (fun k=>spec_l7With.l0.eq_2 ..) (Ev.neg (by unfold prP;rw [List.length_map];omega) (Ev.now _))
  | d + 1, i, hd => by
    have hi:i<l.length:=by omega
    refine Ev.step (fun k=>spec_l7With.l0.eq_2 ..) (Ev.pos (by unfold prP;rw [List.length_map];omega) (Ev.pos (by omega) ?_))
    rw [rdPP hi,List.drop_eq_getElem_cons hi,withP,w64 (n:=(i:Int)+1) (by omega) (by omega),show (i:Int)+1=((i+1:Nat):Int) from by omega]
    by_cases h:l[i].1=n
    · rw [if_pos h]
      exact Ev.pos (by show ((l[i].1:Nat):Int)=(n:Int);omega) (Ev.now _)
    · rw [if_neg h]
      exact Ev.neg (by show ¬((l[i].1:Nat):Int)=(n:Int);omega) (with_l0 l hl n d (i+1) (by omega))
theorem with_ev (l:List (Nat×Nat)) (hl:l.length≤1500) (n:Nat):Ev (fun k=>spec_l7With.f k (prP l) (n:Int)) (wv (withP l n)):=with_l0 l hl n l.length 0 (by omega)
def outM:Option ByteArray→ByteArray×Bool
  | some s=>(s,true)
  | none=>(⟨#[]⟩,false)
theorem three_ev (a b c : List ByteArray) (ha : a.length ≤ 1500 ∧ (cat a).size ≤ 1500) (hb : b.length ≤ 1500 ∧ (cat b).size ≤ 1500) (hc : c.length ≤ 1500 ∧ (cat c).size ≤ 1500) : Ev (fun k => spec_l7Three.f k a b c) (outM (three (cat a) (cat b) (cat c))) := by
  unfold spec_l7Three.f
  refine Ev.bind (l7Text_ev a (by omega) (by omega)) (Ev.bind (l7Text_ev b (by omega) (by omega)) (Ev.bind (l7Text_ev c (by omega) (by omega)) ?_))
  by_cases h1:(cat b).toList=(cat a).toList
  · rw [show three (cat a) (cat b) (cat c) = some (cat c) from by unfold three; rw [if_pos h1]]
    exact Ev.pos h1 (Ev.now _)
  · refine Ev.neg h1 ?_
    by_cases h2:(cat c).toList=(cat a).toList
    · rw [show three (cat a) (cat b) (cat c) = some (cat b) from by unfold three; rw [if_neg h1, if_pos (.inl h2)]]
      exact Ev.pos h2 (Ev.now _)
    · refine Ev.neg h2 ?_
      by_cases h3:(cat c).toList=(cat b).toList
      · rw [show three (cat a) (cat b) (cat c) = some (cat b) from by unfold three; rw [if_neg h1, if_pos (.inr h3)]]
        exact Ev.pos h3 (Ev.now _)
      · rw [show three (cat a) (cat b) (cat c) = none from by unfold three; rw [if_neg h1, if_neg (fun h => h.elim h2 h3)]]
        exact Ev.neg h3 (Ev.now _)
theorem three_size {x y z s:ByteArray} {m:Nat} (h:three x y z=some s) (hy:y.size≤m) (hz:z.size≤m):s.size≤m:=by
  unfold three at h
  split at h
  · rw [← Option.some.inj h]
    exact hz
  · split at h
    · rw [← Option.some.inj h]
      exact hy
    · cases h
theorem cat_sl_le (l:List ByteArray) (i j:Nat):(cat (sl l i j)).size≤(cat l).size:=by
  unfold sl
  have h1:=cat_take_le (l.take j) i
  have h2:=cat_take_le l j
  omega
theorem sl_len_le (l:List ByteArray) (i j:Nat):(sl l i j).length≤l.length:=by
  unfold sl
  rw [List.length_drop,List.length_take]
  omega
theorem elem_le (l:List ByteArray) (n:Nat) (h:n<l.length):(l[n]).size≤(cat l).size:=by
  have h1:=cat_sl_le l n (n+1)
  have e:sl l n (n+1) = [l[n]]:=by
    unfold sl
    rw [List.take_succ_eq_append_getElem h,List.drop_append_of_le_length (by rw [List.length_take];omega),List.drop_of_length_le (by rw [List.length_take];omega)]
    rfl
  rwa [e,cat_one] at h1
def okL (l:List ByteArray):Prop:=l.length≤1500∧(cat l).size≤1500
theorem okL_sl {l:List ByteArray} (h:okL l) (i j:Nat):okL (sl l i j):=⟨Nat.le_trans (sl_len_le l i j) h.1,Nat.le_trans (cat_sl_le l i j) h.2⟩
section
variable (O X Y:List ByteArray) (PX PY:List (Nat×Nat)) (hO:okL O) (hX:okL X) (hY:okL Y) (lX:PX.length≤1500) (lY:PY.length≤1500) (pX:Part O X (withP PX)) (pY:Part O Y (withP PY))
include hO hX hY in
theorem mS_j3 (R : Nat → Nat → Nat → ByteArray → ByteArray × Bool) (n i j k x y : Nat) (out : ByteArray) (hn : n ≤ O.length) (hi : i ≤ n) (hj : j ≤ x) (hx : x ≤ X.length) (hk : k ≤ y) (hy : y ≤ Y.length) (ho : out.size ≤ n * 3000)
    (next:∀ s:ByteArray,s.size≤1500→Ev (fun r=>spec_MergeText.l0 r O X Y (prP PX) (prP PY) (if h:n<O.length then out++s++O[n] else out++s) ((n+1:Nat):Int) ((x+1:Nat):Int) ((y+1:Nat):Int) ((n+1:Nat):Int)) (R (n+1) (x+1) (y+1) (if h:n<O.length then out++s++O[n] else out++s))) :
    Ev (fun r=>spec_MergeText.j3 r O X Y (prP PX) (prP PY) out (i:Int) (j:Int) (k:Int) (n:Int) (x:Int) (y:Int) false) (match three (cat (sl O i n)) (cat (sl X j x)) (cat (sl Y k y)) with
      | some s=>R (n+1) (x+1) (y+1) (if h:n<O.length then out++s++O[n] else out++s)
      | none=>(⟨#[]⟩,false)):=by
  have h1:=hO.1
  have h2:=hX.1
  have h3:=hY.1
  refine Ev.step (fun r=>spec_MergeText.j3.eq_2 ..) (Ev.neg (by simp) (Ev.pos (by omega) (Ev.pos (by omega) (Ev.pos (by omega) (Ev.pos (by omega) (Ev.pos (by omega) (Ev.pos (by omega) (Ev.pos (by omega) (Ev.pos (by omega) (Ev.pos (by omega) ?_))))))))))
  simp only [Int.toNat_natCast]
  refine Ev.bind (three_ev (sl O i n) (sl X j x) (sl Y k y) (okL_sl hO _ _) (okL_sl hX _ _) (okL_sl hY _ _)) ?_
  cases e:three (cat (sl O i n)) (cat (sl X j x)) (cat (sl Y k y)) with
  | none=>exact Ev.neg (by simp [outM]) (Ev.now _)
  | some s =>
    have hs:=three_size e (okL_sl hX j x).2 (okL_sl hY k y).2
    have hN:=next s hs
    refine Ev.pos rfl (Ev.pos (show out.size+s.size≤9223372036854775807 from by omega) ?_)
    rw [w64 (n:=(n:Int)+1) (by omega) (by omega),w64 (n:=(x:Int)+1) (by omega) (by omega),w64 (n:=(y:Int)+1) (by omega) (by omega),show (n:Int)+1=((n+1:Nat):Int) from by omega,show (x:Int)+1=((x+1:Nat):Int) from by omega,show (y:Int)+1=((y+1:Nat):Int) from by omega]
    by_cases h:n<O.length
    · have h4 := elem_le O n h
      have h5:=hO.2
      simp only [dif_pos h] at hN ⊢
      refine Ev.pos (by omega) (Ev.pos (by omega) (Ev.pos ?_ ?_))
      · rw [rd_eq _ h]
        have hb:out.size+s.size+(O[n]).size≤9223372036854775807:=by omega
        have hz:(out++s).size=out.size+s.size:=ByteArray.size_append
        have hb2:(out++s).size+(O[n]).size≤9223372036854775807:=by omega
        exact hb2
      · rw [rd_eq _ h]
        exact hN
    · simp only [dif_neg h] at hN ⊢
      exact Ev.neg (by omega) hN
include hO hX hY lX lY pX pY in
theorem mS_l0 : ∀ (d n i j k : Nat) (out : ByteArray), d + n = O.length + 1 → i ≤ n → (n ≤ O.length → Low (withP PX) n j ∧ j ≤ X.length) → (n ≤ O.length → Low (withP PY) n k ∧ k ≤ Y.length) → out.size ≤ n * 3000 →
    Ev (fun r=>spec_MergeText.l0 r O X Y (prP PX) (prP PY) out (i:Int) (j:Int) (k:Int) (n:Int)) (outM (mgo O X Y (withP PX) (withP PY) d n i j k out))
  | 0,n,i,j,k,out,hd,hi,hj,hk,ho=>Ev.step (fun r=>spec_MergeText.l0.eq_2 ..) (Ev.neg (by omega) (Ev.now _))
  | d + 1, n, i, j, k, out, hd, hi, hj, hk, ho => by
    have hn:n≤O.length:=by omega
    have h1:=hO.1
    have h2:=hX.1
    have h3:=hY.1
    obtain ⟨j1,j2⟩:=hj hn
    obtain ⟨k1,k2⟩:=hk hn
    refine Ev.step (fun r=>spec_MergeText.l0.eq_2 ..) (Ev.pos (by omega) ?_)
    have skip:∀ (x y:Int),(x<0∨y<0)→mgo O X Y (withP PX) (withP PY) (d+1) n i j k out=mgo O X Y (withP PX) (withP PY) d (n+1) i j k out→Ev (fun r=>spec_MergeText.j2 r O X Y (prP PX) (prP PY) out (i:Int) (j:Int) (k:Int) (n:Int) x y) (outM (mgo O X Y (withP PX) (withP PY) (d+1) n i j k out)):=by
      intro x y hxy e
      rw [e]
      have ih:=mS_l0 d (n+1) i j k out (by omega) (by omega) (fun h=>⟨j1.skip,j2⟩) (fun h=>⟨k1.skip,k2⟩) (Nat.le_trans ho (Nat.mul_le_mul_right _ (Nat.le_succ n)))
      have go:Ev (fun r=>spec_MergeText.j3 r O X Y (prP PX) (prP PY) out (i:Int) (j:Int) (k:Int) (n:Int) x y true) (outM (mgo O X Y (withP PX) (withP PY) d (n+1) i j k out)):=by
        refine Ev.step (fun r=>spec_MergeText.j3.eq_2 ..) (Ev.pos rfl ?_)
        rw [w64 (n:=(n:Int)+1) (by omega) (by omega),show (n:Int)+1=((n+1:Nat):Int) from by omega]
        exact ih
      refine Ev.step (fun r=>spec_MergeText.j2.eq_2 ..) ?_
      by_cases hx:x<0
      · exact Ev.pos hx go
      · refine Ev.neg hx ?_
        rw [decide_eq_true (hxy.resolve_left hx)]
        exact go
    have take:∀ (x y:Nat),(n<O.length→withP PX n=some x∧withP PY n=some y)→(n=O.length→x=X.length∧y=Y.length)→j≤x→x≤X.length→k≤y→y≤Y.length→Ev (fun r=>spec_MergeText.j2 r O X Y (prP PX) (prP PY) out (i:Int) (j:Int) (k:Int) (n:Int) (x:Int) (y:Int)) (outM (mgo O X Y (withP PX) (withP PY) (d+1) n i j k out)):=by
      intro x y hxy hend hjx hx hky hy
      refine Ev.step (fun r=>spec_MergeText.j2.eq_2 ..) (Ev.neg (by omega) ?_)
      rw [show decide ((y:Int)<0)=false from decide_eq_false (by omega)]
      have J:=mS_j3 O X Y PX PY hO hX hY (fun a b c s=>outM (mgo O X Y (withP PX) (withP PY) d a a b c s)) n i j k x y out hn hi hjx hx hky hy ho (fun s hs=>by
        refine mS_l0 d (n+1) (n+1) (x+1) (y+1) _ (by omega) (Nat.le_refl _) (fun h => ?_) (fun h => ?_) ?_
        · obtain ⟨e1, e2⟩ := hxy (by omega)
          exact ⟨Low.next pX e1,(pX.lt n x e1 (by omega)).1⟩
        · obtain ⟨e1, e2⟩ := hxy (by omega)
          exact ⟨Low.next pY e2,(pY.lt n y e2 (by omega)).1⟩
        · split
          · rename_i h
            have h4:=elem_le O n h
            have h5:=hO.2
            rw [ByteArray.size_append,ByteArray.size_append]
            omega
          · rw [ByteArray.size_append]
            omega)
      have e:outM (mgo O X Y (withP PX) (withP PY) (d+1) n i j k out)=(match three (cat (sl O i n)) (cat (sl X j x)) (cat (sl Y k y)) with
          | some s=>outM (mgo O X Y (withP PX) (withP PY) d (n+1) (n+1) (x+1) (y+1) (if h:n<O.length then out++s++O[n] else out++s))
          | none=>(⟨#[]⟩,false)):=by
        rw [mgo]
        by_cases h:n<O.length
        · obtain ⟨e1, e2⟩ := hxy h
          rw [dif_pos h,e1,e2]
          simp only [dif_pos h]
          cases three (cat (sl O i n)) (cat (sl X j x)) (cat (sl Y k y)) <;> rfl
        · obtain ⟨rfl, rfl⟩ := hend (by omega)
          rw [dif_neg h]
          simp only [dif_neg h]
          cases three (cat (sl O i n)) (cat (sl X j X.length)) (cat (sl Y k Y.length)) <;> rfl
      rw [e]
      exact J
    by_cases h:n<O.length
    · refine Ev.pos (by omega) (Ev.bind (with_ev PX lX n) (Ev.bind (with_ev PY lY n) ?_))
      cases e1:withP PX n with
      | none=>exact skip _ _ (.inl (by simp [wv])) (by rw [mgo,dif_pos h,e1])
      | some x =>
        cases e2:withP PY n with
        | none=>exact skip _ _ (.inr (by simp [wv])) (by rw [mgo,dif_pos h,e1,e2])
        | some y=>exact take x y (fun _=>⟨e1,e2⟩) (fun q=>absurd q (by omega)) (j1 n x (Nat.le_refl _) e1) (Nat.le_of_lt (pX.lt n x e1 h).1) (k1 n y (Nat.le_refl _) e2) (Nat.le_of_lt (pY.lt n y e2 h).1)
    · exact Ev.neg (by omega) (take X.length Y.length (fun q=>absurd q h) (fun _=>⟨rfl,rfl⟩) j2 (Nat.le_refl _) k2 (Nat.le_refl _))
end
theorem okL_lines {s:ByteArray} (h:s.size≤1500):okL (lines s):=⟨lines_le,Nat.le_trans (cat_lines_le s) h⟩
theorem pairsN_len (O X:List ByteArray) (h:O.length≤1500):(pairsN O X).length≤1500:=by
  unfold pairsN
  split
  · exact Nat.zero_le _
  · rw [(pairs_ok O X (lc O X 0 0) 0 0 (Nat.zero_le _) (Nat.zero_le _) rfl).1]
    have:=(lc_le O X _ 0 0 (Nat.le_refl _)).1
    omega
theorem spec_MergeText_ev (base a b:ByteArray):Ev (fun k=>spec_MergeText.f k base a b) (mergeT base a b):=by
  unfold spec_MergeText.f mergeT
  have jt:Ev (fun k=>spec_MergeText.j0 k base a b true) ((⟨#[]⟩:ByteArray),false):=Ev.step (fun k=>spec_MergeText.j0.eq_2 ..) (Ev.pos rfl (Ev.now _))
  by_cases h0:(base.size:Int)>1500
  · rw [if_pos (by omega)]
    exact Ev.pos h0 jt
  refine Ev.neg h0 ?_
  by_cases h1:(a.size:Int)>1500
  · rw [if_pos (by omega)]
    exact Ev.pos h1 jt
  refine Ev.neg h1 ?_
  by_cases h2:(b.size:Int)>1500
  · rw [if_pos (by omega), decide_eq_true h2]
    exact jt
  rw [if_neg (by omega),decide_eq_false h2]
  suffices h:Ev (fun k=>spec_MergeText.j0 k base a b false) (outM (mergeL (lines base) (lines a) (lines b))) by
    revert h
    cases mergeL (lines base) (lines a) (lines b) <;> exact id
  refine Ev.step (fun k=>spec_MergeText.j0.eq_2 ..) (Ev.neg (by simp) (Ev.bind (spec_Lines_ev base) (Ev.bind (spec_Lines_ev a) (Ev.bind (spec_Lines_ev b) (Ev.bind (spec_Common_ev _ _) (Ev.bind (spec_Common_ev _ _) ?_))))))
  rw [common_prP,common_prP]
  unfold mergeL
  exact mS_l0 (lines base) (lines a) (lines b) _ _ (okL_lines (by omega)) (okL_lines (by omega)) (okL_lines (by omega)) (pairsN_len _ _ lines_le) (pairsN_len _ _ lines_le) (pairsN_part _ _) (pairsN_part _ _) ((lines base).length+1) 0 0 0 0 ⟨#[]⟩ rfl (Nat.le_refl _) (fun _=>⟨fun _ _ _ _=>Nat.zero_le _,Nat.zero_le _⟩) (fun _=>⟨fun _ _ _ _=>Nat.zero_le _,Nat.zero_le _⟩) (Nat.zero_le _)

end Go.Proofs.YtkmfnmeilooogaaDoor.Pure

