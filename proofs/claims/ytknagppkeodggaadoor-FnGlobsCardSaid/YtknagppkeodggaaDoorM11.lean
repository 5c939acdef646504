import Derived.Test.YtknagppkeodggaaDoorM4
import Derived.Test.YtknagppkeodggaaDoorM8
import Derived.Test.YtknagppkeodggaaDoorM3
import Derived.Laws.Bits64
import Derived.Test.YtknagppkeodggaaDoorM7
import Derived.Test.YtknagppkeodggaaDoorM9
import Derived.Test.YtknagppkeodggaaDoorM5
import Derived.Test.YtknagppkeodggaaDoorM10
import Derived.Test.YtknagppkeodggaaDoorM6
namespace Go.Proofs.YtknagppkeodggaaDoor.Pure
open Go Go.RowKit Go.Proofs.YtknagppkeodggaaDoor.P Go.Proofs.YtknagppkeodggaaDoorW.PrintWords Go.Proofs.YtknagppkeodggaaDoorW.PrintLast
set_option linter.unusedVariables false
set_option linter.unusedSimpArgs false

def Code (b:List Int):Prop:=b.length≤2000 ∧ ∀ x ∈ b,0≤x∧x≤255
theorem code_rd {b:List Int} (h:Code b) (i:Int):0≤rd b i∧rd b i≤255:=by
  unfold rd
  rw [List.getD_eq_getElem?_getD]
  cases hx:b[i.toNat]? with
  | none=>simp
  | some x=>exact h.2 x (List.mem_of_getElem? hx)
theorem bytes_of_wf {l:List Int} (h:∀ x ∈ l,(Lit.int .u8 x).wf=true):∀ x ∈ l,0≤x∧x≤255:=fun x hx=>by
  have:=h x hx
  simp [Lit.wf,IntKind.min,IntKind.max,IntKind.signed,IntKind.bits] at this
  omega
theorem open_ev (l:List Int) (h:∀ x ∈ l,0≤x∧x≤255):∃ b,Code b∧spec_l1Open.f l=some (b,0):=by
  unfold spec_l1Open.f
  split
  · rename_i hl
    refine ⟨l.take 2000,⟨by rw [List.length_take];omega,fun x hx=>h x (List.mem_of_mem_take hx)⟩,by rw [if_pos (by omega)]⟩
  · rename_i hl
    exact ⟨l,⟨by omega,h⟩,rfl⟩

theorem xor_i64 (a b:Nat) (ha:a<9223372036854775808) (hb:b<9223372036854775808):Go.bits .xor .i64 (a:Int) (b:Int)=((a ^^^ b:Nat):Int):=by
  have hx:a ^^^ b<2 ^ 63:=Nat.xor_lt_two_pow (by omega) (by omega)
  have h1:(BitVec.ofInt 64 (a:Int)).toNat=a:=by
    rw [BitVec.ofInt_natCast,BitVec.toNat_ofNat];exact Nat.mod_eq_of_lt (by omega)
  have h2:(BitVec.ofInt 64 (b:Int)).toNat=b:=by
    rw [BitVec.ofInt_natCast,BitVec.toNat_ofNat];exact Nat.mod_eq_of_lt (by omega)
  show IntKind.i64.wrap ((BitVec.ofInt 64 (a:Int) ^^^ BitVec.ofInt 64 (b:Int)).toNat:Int)=_
  rw [BitVec.toNat_xor,h1,h2]
  generalize a ^^^ b=c at hx
  simp [IntKind.wrap,IntKind.bits,IntKind.signed]
  omega
theorem xor_range {x:Int} (h0:0≤x) (h1:x<9223372036854775808):0≤Go.bits .xor .i64 x (Int.tdiv x 64):=by
  obtain ⟨n,rfl⟩:=Int.eq_ofNat_of_zero_le h0
  rw [Int.tdiv_eq_ediv_of_nonneg h0,show ((n:Int) / 64)=((n / 64:Nat):Int) from by omega,xor_i64 n _ (by omega) (by omega)]
  exact Int.natCast_nonneg _

def Drawn (n r:Int):Prop:=(1≤n→0≤r∧r<n)∧(n<1→r=0)
theorem drawn_tmod {n x:Int} (hn:1≤n) (h:0≤x):Drawn n (Int.tmod x n):=by
  rw [Int.tmod_eq_emod_of_nonneg h]
  exact ⟨fun _=>⟨Int.emod_nonneg _ (by omega),Int.emod_lt_of_pos _ (by omega)⟩,fun hh=>by omega⟩
theorem pick_j0 (b:List Int) (hb:Code b) (n p:Int) (hn:1≤n) (h0:0≤p) (h1:p≤1000000000000) (hne:(b.length:Int)≠0) (k:Nat) :
    ∃ r,Drawn n r∧spec_l1Rd_pick.j0 (k+1) n false b (p+1)=some (r,p+1):=by
  simp only [spec_l1Rd_pick.j0]
  rw [if_neg (by simp),w64 (by omega) (by omega),show p+1 - 1=p from by omega,if_pos h0,if_neg hne]
  split
  · have hr := code_rd hb p
    rw [if_neg (show ¬n=0 by omega),w64 (by omega) (by omega)]
    exact ⟨_,drawn_tmod hn hr.1,rfl⟩
  · have hpos : (0 : Int) < (b.length : Int) := by omega
    have hl:=hb.1
    rw [w64 (n:=p*7) (by omega) (by omega),w64 (n:=p*7+3) (by omega) (by omega),Int.tmod_eq_emod_of_nonneg h0,Int.tmod_eq_emod_of_nonneg (show 0≤p*7+3 by omega)]
    have m1:=Int.emod_nonneg p (show (b.length:Int)≠0 by omega)
    have m2:=Int.emod_lt_of_pos p hpos
    have m3:=Int.emod_nonneg (p*7+3) (show (b.length:Int)≠0 by omega)
    have m4:=Int.emod_lt_of_pos (p*7+3) hpos
    rw [if_pos m1,if_pos m2,if_pos m3,if_pos m4,if_neg (by omega)]
    have a1:=code_rd hb (p % (b.length:Int))
    have a2:=code_rd hb ((p*7+3) % (b.length:Int))
    have a3:0≤Int.tdiv p (b.length:Int)∧Int.tdiv p (b.length:Int)≤p:=by
      rw [Int.tdiv_eq_ediv_of_nonneg h0]
      exact ⟨Int.ediv_nonneg h0 (by omega),Int.ediv_le_self _ h0⟩
    generalize rd b (p % (b.length:Int))=x1 at a1 ⊢
    generalize rd b ((p*7+3) % (b.length:Int))=x2 at a2 ⊢
    generalize Int.tdiv p (b.length:Int)=x3 at a3 ⊢
    rw [w64 (n:=x1) (by omega) (by omega),w64 (n:=x2) (by omega) (by omega),w64 (n:=x1*131) (by omega) (by omega),w64 (n:=x2*1117) (by omega) (by omega),w64 (n:=x1*131+x2*1117) (by omega) (by omega),w64 (n:=p*29) (by omega) (by omega),w64 (n:=x1*131+x2*1117+p*29) (by omega) (by omega),w64 (n:=x3) (by omega) (by omega),w64 (n:=x3*53) (by omega) (by omega),w64 (n:=x1*131+x2*1117+p*29+x3*53) (by omega) (by omega)]
    have hx:0≤x1*131+x2*1117+p*29+x3*53∧x1*131+x2*1117+p*29+x3*53<9223372036854775808:=by omega
    generalize x1*131+x2*1117+p*29+x3*53=x at hx ⊢
    have hd:0≤Int.tdiv x 64∧Int.tdiv x 64≤x:=by
      rw [Int.tdiv_eq_ediv_of_nonneg hx.1]
      omega
    rw [w64 (n:=Int.tdiv x 64) (by omega) (by omega)]
    exact ⟨_,drawn_tmod hn (xor_range hx.1 hx.2),rfl⟩
theorem pick_ev (b:List Int) (hb:Code b) (p n:Int) (h0:0≤p) (h1:p≤1000000000000):∃ r,Drawn n r∧Ev (fun k=>spec_l1Rd_pick.f k b p n) (r,p+1):=by
  unfold spec_l1Rd_pick.f
  rw [w64 (by omega) (by omega)]
  by_cases hn:n<1
  · refine ⟨0, ⟨fun h => by omega, fun _ => rfl⟩, Ev.step (f := fun _ => some (0, p + 1)) (fun k => ?_) (Ev.now _)⟩
    rw [if_pos hn]
    simp only [spec_l1Rd_pick.j0]
    rfl
  · by_cases he : (b.length : Int) = 0
    · refine ⟨0, ⟨fun h => by omega, fun _ => rfl⟩, Ev.step (f := fun _ => some (0, p + 1)) (fun k => ?_) (Ev.now _)⟩
      rw [if_neg hn,beq_iff_eq.2 he]
      simp only [spec_l1Rd_pick.j0]
      rfl
    · obtain ⟨r, hr, hj⟩ := pick_j0 b hb n p (by omega) h0 h1 he 0
      refine ⟨r,hr,Ev.neg hn ?_⟩
      rw [beq_eq_false_iff_ne.2 he]
      refine Ev.step (f:=fun _=>some (r,p+1)) (fun k => ?_) (Ev.now _)
      rw [←hj]
      simp only [spec_l1Rd_pick.j0]
theorem pick_some (b:List Int) (hb:Code b) (p n:Int) (h0:0≤p) (h1:p≤1000000000000) (hn:1≤n):∃ r,(0≤r∧r<n)∧Ev (fun k=>spec_l1Rd_pick.f k b p n) (r,p+1):=by
  obtain ⟨r,hr,h⟩:=pick_ev b hb p n h0 h1
  exact ⟨r,hr.1 hn,h⟩

theorem pick_evs (b:List Int) (hb:Code b) (p n:Int) (h0:0≤p) (h1:p≤1000000000000) (hn:1≤n):Evs (fun k=>spec_l1Rd_pick.f k b p n) (fun x=>(0≤x.1∧x.1<n)∧x.2=p+1):=by
  obtain ⟨r,hr,h⟩:=pick_some b hb p n h0 h1 hn
  exact ⟨_,⟨hr,rfl⟩,h⟩
theorem tmod_range {a n:Int} (h0:0≤a) (hn:1≤n):0≤Int.tmod a n∧Int.tmod a n<n:=by
  rw [Int.tmod_eq_emod_of_nonneg h0]
  exact ⟨Int.emod_nonneg _ (by omega),Int.emod_lt_of_pos _ (by omega)⟩

end Go.Proofs.YtknagppkeodggaaDoor.Pure


namespace Go.Proofs.YtknagppkeodggaaDoor.Pure
open Go Go.RowKit Go.Proofs.YtknagppkeodggaaDoor.P Go.Proofs.YtknagppkeodggaaDoorW.PrintWords Go.Proofs.YtknagppkeodggaaDoorW.PrintLast
set_option linter.unusedVariables false
set_option linter.unusedSimpArgs false

theorem many_l0:∀ (d n:Nat) (s out:ByteArray),n<2 ^ d→s.size*2 ^ d≤1000000000→out.size+n*s.size≤1000000000→n≤1000000000→Evs (fun k=>spec_l1Many.l0 k s (n:Int) out) (fun r=>r.size=out.size+n*s.size)
  | 0, n, s, out, hn, _, _, _ => by
    obtain rfl:n=0:=by simpa using hn
    exact Evs.step (fun k=>spec_l1Many.l0.eq_2 ..) (Evs.neg (by omega) (Evs.ret (by omega)))
  | d + 1, n, s, out, hn, hs, ho, hb => by
    by_cases h0:n=0
    · subst h0
      exact Evs.step (fun k=>spec_l1Many.l0.eq_2 ..) (Evs.neg (by omega) (Evs.ret (by omega)))
    have e1:Int.tdiv (n:Int) 2=((n / 2:Nat):Int):=by rw [Int.tdiv_eq_ediv_of_nonneg (by omega)];omega
    have e2:Int.tmod (n:Int) 2=((n % 2:Nat):Int):=by rw [Int.tmod_eq_emod_of_nonneg (by omega)];omega
    have es:(s++s).size=s.size+s.size:=ByteArray.size_append
    have eo:(out++s).size=out.size+s.size:=ByteArray.size_append
    have h2:n / 2<2 ^ d:=by rw [Nat.pow_succ] at hn;omega
    have h3:(s++s).size*2 ^ d≤1000000000:=by
      rw [es,←Nat.mul_two,Nat.mul_assoc,Nat.mul_comm 2,←Nat.pow_succ]
      exact hs
    have hz:s.size≤1000000000:=by
      have:1≤2 ^ (d+1):=Nat.one_le_two_pow
      exact Nat.le_trans (Nat.le_mul_of_pos_right _ this) hs
    have hm:n*s.size=(n / 2)*(s++s).size+(n % 2)*s.size:=by
      rw [es,←Nat.mul_two,Nat.mul_comm s.size 2,←Nat.mul_assoc,←Nat.add_mul]
      congr 1
      omega
    refine Evs.step (fun k=>spec_l1Many.l0.eq_2 ..) (Evs.pos (by omega) ?_)
    rw [e1,e2,w64 (n:=((n / 2:Nat):Int)) (by omega) (by omega)]
    by_cases hp:n % 2=1
    · rw [hp, Nat.one_mul] at hm
      refine Evs.pos (by omega) (Evs.pos (by omega) (Evs.pos (by omega) ?_))
      exact (many_l0 d (n / 2) (s++s) (out++s) h2 h3 (by omega) (by omega)).mono (fun r hr=>by omega)
    · rw [show n % 2 = 0 from by omega, Nat.zero_mul] at hm
      refine Evs.neg (by omega) (Evs.pos (by omega) ?_)
      exact (many_l0 d (n / 2) (s++s) out h2 h3 (by omega) (by omega)).mono (fun r hr=>by omega)
theorem many_evs (s:ByteArray) (n:Nat) (hs:s.size≤10000) (hn:n≤10000):Evs (fun k=>spec_l1Many.f k s (n:Int)) (fun r=>r.size=n*s.size):=by
  unfold spec_l1Many.f
  have hb:n*s.size≤10000*10000:=Nat.mul_le_mul hn hs
  have hp:s.size*2 ^ 14≤10000*2 ^ 14:=Nat.mul_le_mul_right _ hs
  have he:(10000*2 ^ 14:Nat)=163840000:=by decide
  have hz:(⟨#[]⟩:ByteArray).size=0:=rfl
  exact (many_l0 14 n s ⟨#[]⟩ (by have : (2 ^ 14 : Nat) = 16384 := by decide
                                  omega) (by omega) (by omega) (by omega)).mono (fun r hr=>by omega)
theorem many_evs' (s:ByteArray) (n:Int) (hs:s.size≤10000) (h0:0≤n) (hn:n≤10000):Evs (fun k=>spec_l1Many.f k s n) (fun r=>r.size=n.toNat*s.size):=by
  have:=many_evs s n.toNat hs (by omega)
  rwa [show (n.toNat:Int)=n from by omega] at this
def TextAt (p:Int) (r:ByteArray×Int):Prop:=r.1.size≤12∧p≤r.2∧r.2≤p+10
theorem abcd_size (t:Int) (h0:0≤t) (h1:t<4):1≤((⟨#[97,98,99,100]⟩:ByteArray).extract t.toNat (⟨#[97,98,99,100]⟩:ByteArray).size).size:=by
  rw [ByteArray.size_extract]
  have:(⟨#[97,98,99,100]⟩:ByteArray).size=4:=rfl
  omega
theorem text_l0 (b:List Int) (hb:Code b):∀ (d:Nat) (out:ByteArray) (p:Int),out.size+2*d≤1000→d≤100→0≤p→p+d≤100000000→Evs (fun k=>spec_l1Text.l0 k out (d:Int) b p) (fun r=>r.1.size=out.size+2*d∧r.2=p+d)
  | 0,out,p,_,_,_,_=>Evs.step (fun k=>spec_l1Text.l0.eq_2 ..) (Evs.neg (by omega) (Evs.ret ⟨by show out.size=out.size+2*0;omega,by simp⟩))
  | d + 1, out, p, h1, h2, h3, h4 => by
    refine Evs.step (fun k=>spec_l1Text.l0.eq_2 ..) (Evs.pos (by omega) (Evs.bind (pick_evs b hb p 4 (by omega) (by omega) (by omega)) (fun t ht => ?_)))
    obtain ⟨⟨t0,t1⟩,t2⟩:=ht
    have hs:=abcd_size t.1 t0 t1
    have hx:(((⟨#[97,98,99,100]⟩:ByteArray).extract t.1.toNat (⟨#[97,98,99,100]⟩:ByteArray).size).extract 0 1).size=1:=by
      rw [ByteArray.size_extract]
      omega
    revert hx
    generalize ((⟨#[97,98,99,100]⟩:ByteArray).extract t.1.toNat (⟨#[97,98,99,100]⟩:ByteArray).size).extract 0 1=x
    intro hx
    have e1:(out++x).size=out.size+x.size:=ByteArray.size_append
    have e2:(out++x++(⟨#[10]⟩:ByteArray)).size=(out++x).size+1:=ByteArray.size_append
    refine Evs.pos t0 (Evs.pos (by omega) (Evs.pos (by omega) (Evs.pos (by omega) (Evs.pos (by omega) (Evs.pos (by omega) ?_)))))
    rw [w64 (n:=((d+1:Nat):Int) - 1) (by omega) (by omega),show ((d+1:Nat):Int) - 1=(d:Int) from by omega,t2]
    exact (text_l0 b hb d _ (p+1) (by omega) (by omega) (by omega) (by omega)).mono (fun r hr=>⟨by omega,by omega⟩)
theorem text_evs (b:List Int) (hb:Code b) (p:Int) (h0:0≤p) (h1:p≤10000000):Evs (fun k=>spec_l1Text.f k b p) (TextAt p):=by
  unfold spec_l1Text.f
  refine Evs.bind (pick_evs b hb p 9 (by omega) (by omega) (by omega)) (fun t ht => ?_)
  obtain ⟨⟨t0,t1⟩,t2⟩:=ht
  refine Evs.ite (fun _=>Evs.ret ⟨by show (⟨#[]⟩:ByteArray).size≤12;decide,by show p≤t.2;omega,by show t.2≤_;omega⟩) (fun _=>Evs.ite (fun _=>Evs.ret ⟨by show (⟨#[255,0]⟩:ByteArray).size≤12;decide,by show p≤t.2;omega,by show t.2≤_;omega⟩) (fun _=>Evs.ite (fun _=>Evs.ret ⟨by show (⟨#[110,111,32,110,101,119,108,105,110,101]⟩:ByteArray).size≤12;decide,by show p≤t.2;omega,by show t.2≤_;omega⟩) (fun _ => ?_)))
  refine Evs.bind (pick_evs b hb t.2 7 (by omega) (by omega) (by omega)) (fun u hu => ?_)
  obtain ⟨⟨u0,u1⟩,u2⟩:=hu
  obtain ⟨m,hm⟩:∃ m:Nat,u.1=(m:Int):=⟨u.1.toNat,by omega⟩
  rw [hm]
  have hz:(⟨#[]⟩:ByteArray).size=0:=rfl
  exact (text_l0 b hb m ⟨#[]⟩ u.2 (by omega) (by omega) (by omega) (by omega)).mono (fun r hr=>⟨by omega,by omega,by omega⟩)

end Go.Proofs.YtknagppkeodggaaDoor.Pure


namespace Go.Proofs.YtknagppkeodggaaDoor.Pure
open Go Go.RowKit Go.Proofs.YtknagppkeodggaaDoor.P Go.Proofs.YtknagppkeodggaaDoorW.PrintWords Go.Proofs.YtknagppkeodggaaDoorW.PrintLast
set_option linter.unusedVariables false
set_option linter.unusedSimpArgs false

theorem rd_in {l:List ByteArray} {t:Int} (h0:0≤t) (h1:t<(l.length:Int)):rdOf ByteArray.empty l t ∈ l:=by
  obtain ⟨m,rfl⟩:=Int.eq_ofNat_of_zero_le h0
  have hm:m<l.length:=by omega
  rw [rd_eq _ hm]
  exact List.getElem_mem hm
def fullL (l:List UInt8):Prop:=∀ x ∈ cuts 47 l [],x ≠ []
theorem cuts_more (c:UInt8) (x:List UInt8) (hx:c ∉ x):∀ (l cur:List UInt8),cuts c (l++c :: x) cur=cuts c l cur ++ [x]
  | [], cur => by
    have h:=cuts_hit c x [] cur (by simp)
    rw [h,cuts_free c x [] hx,List.append_nil]
    rfl
  | b :: r, cur => by
    rw [List.cons_append,cuts,cuts]
    split
    · rw [cuts_more c x hx r []]
      rfl
    · exact cuts_more c x hx r _
theorem full_more {l x:List UInt8} (h:fullL l) (hx:(47:UInt8) ∉ x) (hn:x ≠ []):fullL (l++47 :: x):=by
  unfold fullL
  rw [cuts_more 47 x hx]
  intro y hy
  rcases List.mem_append.1 hy with hy|hy
  · exact h y hy
  · rw [List.mem_singleton.1 hy]
    exact hn
theorem full_one {x:List UInt8} (hx:(47:UInt8) ∉ x) (hn:x ≠ []):fullL x:=by
  unfold fullL
  rw [cuts_free 47 x [] hx]
  intro y hy
  rw [List.mem_singleton.1 hy]
  exact hn
def PathAt (p:Int) (r:ByteArray×Int):Prop:=r.1.size≤40∧fullL r.1.data.toList∧p≤r.2∧r.2≤p+10
theorem path_l0 (b:List Int) (hb:Code b):∀ (d:Nat) (out:ByteArray) (p:Int),out.size+7*d≤1000→fullL out.data.toList→0≤p→p+d≤100000000→Evs (fun k=>spec_l4Path.l0 k out (d:Int) b p) (fun r=>r.1.size≤out.size+7*d∧fullL r.1.data.toList∧r.2=p+d)
  | 0,out,p,_,hf,_,_=>Evs.step (fun k=>spec_l4Path.l0.eq_2 ..) (Evs.neg (by omega) (Evs.ret ⟨Nat.le_refl _,hf,by simp⟩))
  | d + 1, out, p, h1, hf, h3, h4 => by
    refine Evs.step (fun k=>spec_l4Path.l0.eq_2 ..) (Evs.pos (by omega) (Evs.pos (by omega) (Evs.sb (Evs.bind (pick_evs b hb p 6 (by omega) (by omega) (by omega)) (fun t ht => ?_)))))
    obtain ⟨⟨t0,t1⟩,t2⟩:=ht
    have hx:=rd_in (l:=[(⟨#[120]⟩:ByteArray),(⟨#[121]⟩:ByteArray),(⟨#[120,120]⟩:ByteArray),(⟨#[109,97,105,110,46,107]⟩:ByteArray),(⟨#[97]⟩:ByteArray),(⟨#[120,33]⟩:ByteArray)]) t0 (by simpa using t1)
    refine Evs.pos t0 (Evs.pos (by simpa using t1) ?_)
    revert hx
    generalize rdOf ByteArray.empty [(⟨#[120]⟩:ByteArray),(⟨#[121]⟩:ByteArray),(⟨#[120,120]⟩:ByteArray),(⟨#[109,97,105,110,46,107]⟩:ByteArray),(⟨#[97]⟩:ByteArray),(⟨#[120,33]⟩:ByteArray)] t.1=x
    intro hx
    have key:x.size≤6∧(47:UInt8) ∉ x.data.toList∧x.data.toList ≠ []:=by
      simp only [List.mem_cons,List.not_mem_nil,or_false] at hx
      rcases hx with h|h|h|h|h|h <;> rw [h] <;> exact ⟨by decide,by decide,by decide⟩
    have e1:(out++(⟨#[47]⟩:ByteArray)).size=out.size+1:=ByteArray.size_append
    have e2:(out++(⟨#[47]⟩:ByteArray)++x).size=(out++(⟨#[47]⟩:ByteArray)).size+x.size:=ByteArray.size_append
    have ef:fullL (out++(⟨#[47]⟩:ByteArray)++x).data.toList:=by
      rw [data_append,data_append,List.append_assoc]
      exact full_more hf key.2.1 key.2.2
    refine Evs.pos (by omega) ?_
    rw [w64 (n:=((d+1:Nat):Int) - 1) (by omega) (by omega),show ((d+1:Nat):Int) - 1=(d:Int) from by omega,t2]
    refine (path_l0 b hb d _ (p+1) (by omega) ef (by omega) (by omega)).mono (fun r hr => ?_)
    obtain ⟨r1,r2,r3⟩:=hr
    exact ⟨by omega,r2,by omega⟩
theorem abc_one (t:Int) (h0:0≤t) (h1:t<3):1≤((⟨#[97,98,99]⟩:ByteArray).extract t.toNat (⟨#[97,98,99]⟩:ByteArray).size).size ∧ ∃ c:UInt8,(c=97∨c=98∨c=99)∧(((⟨#[97,98,99]⟩:ByteArray).extract t.toNat (⟨#[97,98,99]⟩:ByteArray).size).extract 0 1)=⟨#[c]⟩:=by
  have:t=0∨t=1∨t=2:=by omega
  rcases this with h|h|h <;> subst h
  · exact ⟨by decide,97,.inl rfl,by rfl⟩
  · exact ⟨by decide,98,.inr (.inl rfl),by rfl⟩
  · exact ⟨by decide,99,.inr (.inr rfl),by rfl⟩
theorem path_evs (b:List Int) (hb:Code b) (p:Int) (h0:0≤p) (h1:p≤10000000):Evs (fun k=>spec_l4Path.f k b p) (PathAt p):=by
  unfold spec_l4Path.f
  refine Evs.bind (pick_evs b hb p 3 (by omega) (by omega) (by omega)) (fun t ht => ?_)
  obtain ⟨⟨t0,t1⟩,t2⟩:=ht
  obtain ⟨hs,c,hc,ec⟩:=abc_one t.1 t0 t1
  refine Evs.pos t0 (Evs.pos (by omega) (Evs.pos (by omega) (Evs.pos (by omega) (Evs.sb (Evs.bind (pick_evs b hb t.2 6 (by omega) (by omega) (by omega)) (fun u hu => ?_))))))
  obtain ⟨⟨u0,u1⟩,u2⟩:=hu
  have hx:=rd_in (l:=[(⟨#[]⟩:ByteArray),(⟨#[]⟩:ByteArray),(⟨#[]⟩:ByteArray),(⟨#[]⟩:ByteArray),(⟨#[33,98]⟩:ByteArray),(⟨#[45]⟩:ByteArray)]) u0 (by simpa using u1)
  refine Evs.pos u0 (Evs.pos (by simpa using u1) ?_)
  revert hx
  generalize rdOf ByteArray.empty [(⟨#[]⟩:ByteArray),(⟨#[]⟩:ByteArray),(⟨#[]⟩:ByteArray),(⟨#[]⟩:ByteArray),(⟨#[33,98]⟩:ByteArray),(⟨#[45]⟩:ByteArray)] u.1=x
  intro hx
  have key:x.size≤2∧(47:UInt8) ∉ x.data.toList:=by
    simp only [List.mem_cons,List.not_mem_nil,or_false] at hx
    rcases hx with h|h|h|h|h|h <;> rw [h] <;> exact ⟨by decide,by decide⟩
  rw [ec]
  have hz:(⟨#[c]⟩:ByteArray).size=1:=rfl
  have e1:((⟨#[c]⟩:ByteArray)++x).size=1+x.size:=ByteArray.size_append
  have ef:fullL ((⟨#[c]⟩:ByteArray)++x).data.toList:=by
    rw [data_append]
    refine full_one (fun hm => ?_) (by simp)
    rcases List.mem_append.1 hm with hm|hm
    · have hm' : (47 : UInt8) = c := List.mem_singleton.1 hm
      rcases hc with h|h|h <;> rw [h] at hm' <;> exact absurd hm' (by decide)
    · exact key.2 hm
  refine Evs.pos (by omega) (Evs.bind (pick_evs b hb u.2 4 (by omega) (by omega) (by omega)) (fun v hv => ?_))
  obtain ⟨⟨v0,v1⟩,v2⟩:=hv
  obtain ⟨m,hm⟩:∃ m:Nat,v.1=(m:Int):=⟨v.1.toNat,by omega⟩
  rw [hm]
  refine (path_l0 b hb m _ v.2 (by omega) ef (by omega) (by omega)).mono (fun r hr => ?_)
  obtain ⟨r1,r2,r3⟩:=hr
  exact ⟨by omega,r2,by omega,by omega⟩
def SpoilAt (n:Nat) (p:Int) (r:ByteArray×Int):Prop:=r.1.size≤n+50∧p≤r.2∧r.2≤p+5
theorem spoil_evs (b:List Int) (hb:Code b) (p:Int) (h0:0≤p) (h1:p≤10000000) (a:ByteArray) (ha:a.size≤100000000):Evs (fun k=>spec_l4Spoil.f k b p a) (SpoilAt a.size p):=by
  unfold spec_l4Spoil.f
  refine Evs.bind (pick_evs b hb p 9 (by omega) (by omega) (by omega)) (fun t ht => ?_)
  obtain ⟨⟨t0,t1⟩,t2⟩:=ht
  have e1:(a++(⟨#[47]⟩:ByteArray)).size=a.size+1:=ByteArray.size_append
  have e2:((⟨#[47]⟩:ByteArray)++a).size=1+a.size:=ByteArray.size_append
  have e3:(a++(⟨#[47,46,46]⟩:ByteArray)).size=a.size+3:=ByteArray.size_append
  have e4:((⟨#[46,47]⟩:ByteArray)++a).size=2+a.size:=ByteArray.size_append
  refine Evs.ite (fun _=>Evs.ret ⟨by show (⟨#[]⟩:ByteArray).size≤_;exact Nat.zero_le _,by show p≤t.2;omega,by show t.2≤_;omega⟩) (fun _ => ?_)
  refine Evs.ite (fun _=>Evs.pos (by omega) (Evs.ret ⟨by show (a++(⟨#[47]⟩:ByteArray)).size≤_;omega,by show p≤t.2;omega,by show t.2≤_;omega⟩)) (fun _ => ?_)
  refine Evs.ite (fun _=>Evs.pos (by omega) (Evs.ret ⟨by show ((⟨#[47]⟩:ByteArray)++a).size≤_;omega,by show p≤t.2;omega,by show t.2≤_;omega⟩)) (fun _ => ?_)
  refine Evs.ite (fun _=>Evs.pos (by omega) (Evs.ret ⟨by show (a++(⟨#[47,46,46]⟩:ByteArray)).size≤_;omega,by show p≤t.2;omega,by show t.2≤_;omega⟩)) (fun _ => ?_)
  refine Evs.ite (fun _=>Evs.pos (by omega) (Evs.ret ⟨by show ((⟨#[46,47]⟩:ByteArray)++a).size≤_;omega,by show p≤t.2;omega,by show t.2≤_;omega⟩)) (fun _ => ?_)
  refine Evs.ite (fun _=>Evs.pos (by omega) ?_) (fun _=>Evs.ite (fun _ => ?_) (fun _=>Evs.ite (fun _ => ?_) (fun _ => ?_)))
  · refine Evs.bind (pick_evs b hb t.2 2 (by omega) (by omega) (by omega)) (fun u hu => ?_)
    obtain ⟨⟨u0,u1⟩,u2⟩:=hu
    rw [w64 (n:=20+u.1) (by omega) (by omega)]
    refine Evs.bind (many_evs' ⟨#[110]⟩ _ (by decide) (by omega) (by omega)) (fun x hx => ?_)
    have hz:(⟨#[110]⟩:ByteArray).size=1:=rfl
    rw [hz,Nat.mul_one] at hx
    have e5:(a++(⟨#[47]⟩:ByteArray)++x).size=(a++(⟨#[47]⟩:ByteArray)).size+x.size:=ByteArray.size_append
    exact Evs.pos (by omega) (Evs.ret ⟨by show (a++(⟨#[47]⟩:ByteArray)++x).size≤_;omega,by show p≤u.2;omega,by show u.2≤_;omega⟩)
  · refine Evs.bind (pick_evs b hb t.2 2 (by omega) (by omega) (by omega)) (fun u hu => ?_)
    obtain ⟨⟨u0,u1⟩,u2⟩:=hu
    rw [w64 (n:=5+u.1) (by omega) (by omega)]
    refine Evs.bind (many_evs' ⟨#[112,47]⟩ _ (by decide) (by omega) (by omega)) (fun x hx => ?_)
    have hz:(⟨#[112,47]⟩:ByteArray).size=2:=rfl
    rw [hz] at hx
    have e5:(x++(⟨#[113]⟩:ByteArray)).size=x.size+1:=ByteArray.size_append
    exact Evs.pos (by omega) (Evs.ret ⟨by show (x++(⟨#[113]⟩:ByteArray)).size≤_;omega,by show p≤u.2;omega,by show u.2≤_;omega⟩)
  · refine Evs.sb (Evs.bind (pick_evs b hb t.2 5 (by omega) (by omega) (by omega)) (fun u hu => ?_))
    obtain ⟨⟨u0,u1⟩,u2⟩:=hu
    have hx:=rd_in (l:=[(⟨#[32]⟩:ByteArray),(⟨#[34]⟩:ByteArray),(⟨#[127]⟩:ByteArray),(⟨#[42]⟩:ByteArray),(⟨#[63]⟩:ByteArray)]) u0 (by simpa using u1)
    refine Evs.pos u0 (Evs.pos (by simpa using u1) ?_)
    revert hx
    generalize rdOf ByteArray.empty [(⟨#[32]⟩:ByteArray),(⟨#[34]⟩:ByteArray),(⟨#[127]⟩:ByteArray),(⟨#[42]⟩:ByteArray),(⟨#[63]⟩:ByteArray)] u.1=x
    intro hx
    have key:x.size=1:=by
      simp only [List.mem_cons,List.not_mem_nil,or_false] at hx
      rcases hx with h|h|h|h|h <;> rw [h] <;> rfl
    have e5:(a++x).size=a.size+x.size:=ByteArray.size_append
    exact Evs.pos (by omega) (Evs.ret ⟨by show (a++x).size≤_;omega,by show p≤u.2;omega,by show u.2≤_;omega⟩)
  · refine Evs.bind (many_evs' ⟨#[42, 97]⟩ 9 (by decide) (by omega) (by omega)) (fun x hx => ?_)
    have hz:(⟨#[42,97]⟩:ByteArray).size=2:=rfl
    rw [hz] at hx
    have e5:(x++(⟨#[63]⟩:ByteArray)).size=x.size+1:=ByteArray.size_append
    exact Evs.pos (by omega) (Evs.ret ⟨by show (x++(⟨#[63]⟩:ByteArray)).size≤_;omega,by show p≤t.2;omega,by show t.2≤_;omega⟩)

end Go.Proofs.YtknagppkeodggaaDoor.Pure


namespace Go.Proofs.YtknagppkeodggaaDoor.Pure
open Go Go.RowKit Go.Proofs.YtknagppkeodggaaDoor.P Go.Proofs.YtknagppkeodggaaDoorW.PrintWords Go.Proofs.YtknagppkeodggaaDoorW.PrintLast
set_option linter.unusedVariables false
set_option linter.unusedSimpArgs false

def SmT (c a:Nat) (l:List Entry):Prop:=l.length≤c ∧ ∀ e ∈ l,e.f0.size≤a∧e.f1.size≤a
theorem SmT.mono {c a c' a':Nat} {l:List Entry} (h:SmT c a l) (hc:c≤c') (ha:a≤a'):SmT c' a' l:=⟨Nat.le_trans h.1 hc,fun e he=>⟨Nat.le_trans (h.2 e he).1 ha,Nat.le_trans (h.2 e he).2 ha⟩⟩
theorem SmT.nil (c a:Nat):SmT c a []:=⟨Nat.zero_le _,fun e he=>by cases he⟩
theorem SmT.set {c a:Nat} {l:List Entry} (h:SmT c a l) {e:Entry} (he:e.f0.size≤a∧e.f1.size≤a):SmT (c+1) a (setR e l) :=
  ⟨Nat.le_trans (setR_len e l) (Nat.succ_le_succ h.1),fun x hx=>by
    rcases (setR_mem e l x).1 hx with rfl|hx
    · exact he
    · exact h.2 x hx.1⟩
theorem SmT.snoc {c a:Nat} {l:List Entry} (h:SmT c a l) {e:Entry} (he:e.f0.size≤a∧e.f1.size≤a):SmT (c+1) a (l ++ [e]) :=
  ⟨by rw [List.length_append, List.length_singleton]; exact Nat.succ_le_succ h.1, fun x hx => by
    rcases List.mem_append.1 hx with hx|hx
    · exact h.2 x hx
    · rw [List.mem_singleton.1 hx]
      exact he⟩
theorem SmT.at {c a:Nat} {l:List Entry} (h:SmT c a l) {i:Nat} (hi:i<l.length):l[i].f0.size≤a∧l[i].f1.size≤a:=h.2 _ (List.getElem_mem hi)
theorem SmT.put1 {c a:Nat} {l:List Entry} (h:SmT c a l) {e:Entry} (he:e.f0.size≤a∧e.f1.size≤a) (i:Nat):SmT c a (l.set i e) :=
  ⟨by rw [List.length_set];exact h.1,fun x hx=>by
    rcases List.mem_or_eq_of_mem_set hx with hx|rfl
    · exact h.2 x hx
    · exact he⟩
theorem SmT.put {c a : Nat} {l : List Entry} (h : SmT c a l) {e : Entry} (he : e.f0.size ≤ a ∧ e.f1.size ≤ a) : SmT 100 a (put l e).1 := by
  refine ⟨put_len l e,fun x hx => ?_⟩
  unfold Pure.put at hx
  split at hx
  · split at hx
    · unfold putL at hx
      split at hx
      · cases hx
      · split at hx
        · cases hx
        · rcases (setR_mem e l x).1 hx with rfl | hx
          · exact he
          · exact h.2 x hx.1
    · cases hx
  · cases hx
theorem SmT.big {c a:Nat} {l:List Entry} (h:SmT c a l) (ha:a≤1048576):∀ e ∈ l,e.f0.size≤1048576:=fun e he=>Nat.le_trans (h.2 e he).1 ha
def zname (i:Nat):ByteArray:=(⟨#[122]⟩:ByteArray)++strOfNums [((97+i / 26:Nat):Int),((97+i % 26:Nat):Int)]
theorem zname_size (i:Nat):(zname i).size=3:=by
  unfold zname
  rw [ByteArray.size_append,son_size]
  rfl
theorem zname_is (i:Nat) (h:i≤1000):(⟨#[122]⟩:ByteArray)++strOfNums [(wrap64 (97+(wrap64 (Int.tdiv (i:Int) 26)))) % 256,(wrap64 (97+(Int.tmod (i:Int) 26))) % 256]=zname i:=by
  unfold zname
  rw [Int.tdiv_eq_ediv_of_nonneg (by omega),Int.tmod_eq_emod_of_nonneg (by omega),w64 (n:=(i:Int) / 26) (by omega) (by omega),w64 (n:=97+(i:Int) / 26) (by omega) (by omega),w64 (n:=97+(i:Int) % 26) (by omega) (by omega)]
  have a1:(97+(i:Int) / 26) % 256=((97+i / 26:Nat):Int):=by omega
  have a2:(97+(i:Int) % 26) % 256=((97+i % 26:Nat):Int):=by omega
  rw [a1,a2]
theorem zname_inj {i j:Nat} (hi:i≤1000) (hj:j≤1000) (h:zname i=zname j):i=j:=by
  unfold zname at h
  have e:((⟨#[122]⟩:ByteArray)++strOfNums [((97+i / 26:Nat):Int),((97+i % 26:Nat):Int)]).data.toList=((⟨#[122]⟩:ByteArray)++strOfNums [((97+j / 26:Nat):Int),((97+j % 26:Nat):Int)]).data.toList:=by rw [h]
  rw [data_append,data_append,son_data,son_data] at e
  have e2:=List.append_cancel_left e
  simp only [List.map_cons,List.map_nil,Int.toNat_natCast,List.cons.injEq,and_true] at e2
  have f1:=congrArg UInt8.toNat e2.1
  have f2:=congrArg UInt8.toNat e2.2
  rw [UInt8.toNat_ofNat',UInt8.toNat_ofNat'] at f1 f2
  omega
theorem znames_len {l:List Entry} {i:Nat} (hi:i≤1000) (h:∀ j,j<i → ∃ e ∈ l,e.f0=zname j):i≤l.length:=by
  have hn:((List.range i).map zname).Nodup:=by
    rw [List.nodup_iff_pairwise_ne,List.pairwise_map]
    refine List.Pairwise.imp_of_mem ?_ List.pairwise_lt_range
    intro a b ha hb hab e
    have:=List.mem_range.1 ha
    have:=List.mem_range.1 hb
    have:=zname_inj (by omega) (by omega) e
    omega
  have hs:∀ x ∈ (List.range i).map zname,x ∈ l.map (·.f0):=by
    intro x hx
    obtain ⟨j,hj,rfl⟩:=List.mem_map.1 hx
    obtain ⟨e,he,h2⟩:=h j (List.mem_range.1 hj)
    exact List.mem_map.2 ⟨e,he,h2⟩
  have:=sub_len ((List.range i).map zname) (l.map (·.f0)) hn hs
  rwa [List.length_map,List.length_range,List.length_map] at this
where
  sub_len : ∀ (a b : List ByteArray), a.Nodup → (∀ x ∈ a, x ∈ b) → a.length ≤ b.length
    | [],b,_,_=>Nat.zero_le _
    | x :: r, b, hn, hs => by
      obtain ⟨h1,h2⟩:=List.nodup_cons.1 hn
      obtain ⟨b1,b2,e⟩:=List.append_of_mem (hs x List.mem_cons_self)
      have hr:∀ y ∈ r,y ∈ b1++b2:=by
        intro y hy
        have:=hs y (List.mem_cons_of_mem _ hy)
        rw [e] at this
        rcases List.mem_append.1 this with h|h
        · exact List.mem_append_left _ h
        · rcases List.mem_cons.1 h with rfl | h
          · exact absurd hy h1
          · exact List.mem_append_right _ h
      have:=sub_len r (b1++b2) h2 hr
      rw [e]
      simp only [List.length_append,List.length_cons] at this ⊢
      omega
def TreeAt (c a:Nat) (p q:Int) (r:List Entry×Int):Prop:=SmT c a r.1∧p≤r.2∧r.2≤q
theorem zset {l:List Entry} {i:Nat} (hi:i≤900) (h:∀ j,j<i → ∃ e ∈ l,e.f0=zname j) (t:ByteArray) (u:Bool):∀ j,j<i+1 → ∃ e ∈ setR ⟨zname i,t,u⟩ l,e.f0=zname j:=by
  intro j hj
  by_cases hji:j=i
  · subst hji
    exact ⟨_,(setR_mem _ l _).2 (.inl rfl),rfl⟩
  · obtain ⟨e, he, h2⟩ := h j (by omega)
    refine ⟨e,(setR_mem _ l _).2 (.inr ⟨he,fun hh=>hji ?_⟩),h2⟩
    rw [h2] at hh
    have:zname j=zname i:=ba_ext (by rw [←Lib.toList_data,hh,Lib.toList_data])
    exact zname_inj (by omega) (by omega) this
theorem draw5_l1 (b:List Int) (q x:Int) (hx:x≤101) (a:Nat) (ha:3≤a):∀ (d i:Nat) (l:List Entry),i+d=102→(∀ j,j<i → ∃ e ∈ l,e.f0=zname j)→SmT 101 a l→Evs (fun k=>spec_l5Draw.l1 k x (i:Int) b q l) (fun r=>SmT 101 a r.1∧r.2=q)
  | 0, i, l, hd, hz, hl => by
    have:=znames_len (i:=i) (by omega) hz
    have:=hl.1
    omega
  | d + 1, i, l, hd, hz, hl => by
    refine Evs.step (fun k=>spec_l5Draw.l1.eq_2 ..) (Evs.ite (fun c=>Evs.sb ?_) (fun _=>Evs.ret ⟨hl,rfl⟩))
    have hn:=znames_len (i:=i) (by omega) hz
    refine Evs.pos (by rw [son_size];show 1+2≤9223372036854775807;omega) ?_
    rw [zname_is i (by omega)]
    refine Evs.bind (Evs.of (spec_set_ev l (by have:=hl.1;omega) (zname i) ⟨#[]⟩ false) (Q:=fun t=>t=setR ⟨zname i,⟨#[]⟩,false⟩ l) rfl) (fun t ht => ?_)
    subst ht
    rw [w64 (n:=(i:Int)+1) (by omega) (by omega),show (i:Int)+1=((i+1:Nat):Int) from by omega]
    have hs:=hl.set (e:=⟨zname i,⟨#[]⟩,false⟩) ⟨by rw [zname_size];exact ha,Nat.zero_le _⟩
    refine draw5_l1 b q x hx a ha d (i+1) _ (by omega) (zset (by omega) hz _ _) ⟨?_,hs.2⟩
    have:=setR_len ⟨zname i,⟨#[]⟩,false⟩ l
    omega
theorem draw5_l0 (b:List Int) (hb:Code b):∀ (d:Nat) (p:Int) (l:List Entry),0≤p→p+30*d≤9000000→SmT 100 40 l→Evs (fun k=>spec_l5Draw.l0 k (d:Int) b p l) (TreeAt 101 40 p (p+30*d+10))
  | 0, p, l, h0, h1, hl => by
    refine Evs.step (fun k=>spec_l5Draw.l0.eq_2 ..) (Evs.neg (by omega) (Evs.bind (pick_evs b hb p 16 (by omega) (by omega) (by omega)) (fun t ht => ?_)))
    obtain ⟨⟨t0,t1⟩,t2⟩:=ht
    refine Evs.ite (fun _=>Evs.bind (pick_evs b hb t.2 3 (by omega) (by omega) (by omega)) (fun u hu => ?_)) (fun _=>Evs.ret ⟨hl.mono (by omega) (Nat.le_refl _),by show p≤t.2;omega,by show t.2≤_;omega⟩)
    obtain ⟨⟨u0,u1⟩,u2⟩:=hu
    rw [w64 (n:=100 - u.1) (by omega) (by omega)]
    refine (draw5_l1 b u.2 _ (by omega) 40 (by omega) 102 0 l (by omega) (fun j hj=>by omega) (hl.mono (by omega) (Nat.le_refl _))).mono (fun r hr => ?_)
    exact ⟨hr.1,by have:=hr.2;omega,by have:=hr.2;omega⟩
  | d + 1, p, l, h0, h1, hl => by
    refine Evs.step (fun k=>spec_l5Draw.l0.eq_2 ..) (Evs.pos (by omega) (Evs.bind (path_evs b hb p (by omega) (by omega)) (fun t ht=>Evs.bind (text_evs b hb t.2 (by have:=ht.2.2;omega) (by have:=ht.2.2;omega)) (fun u hu => ?_))))
    obtain ⟨t1,_,t2,t3⟩:=ht
    obtain ⟨u1,u2,u3⟩:=hu
    refine Evs.bind (pick_evs b hb u.2 4 (by omega) (by omega) (by omega)) (fun v hv => ?_)
    obtain ⟨⟨v0,v1⟩,v2⟩:=hv
    refine Evs.bind (Evs.of (spec_Put_ev l t.1 u.1 (v.1==0)) (Q:=fun y=>y=put l ⟨t.1,u.1,v.1==0⟩) rfl) (fun y hy => ?_)
    subst hy
    have hp:=hl.put (e:=⟨t.1,u.1,v.1==0⟩) ⟨by show t.1.size≤40;omega,by show u.1.size≤40;omega⟩
    rw [w64 (n:=((d+1:Nat):Int) - 1) (by omega) (by omega),show ((d+1:Nat):Int) - 1=(d:Int) from by omega]
    refine Evs.ite (fun _=>(draw5_l0 b hb d v.2 _ (by omega) (by omega) hp).mono (fun r hr => ?_)) (fun _=>(draw5_l0 b hb d v.2 _ (by omega) (by omega) hl).mono (fun r hr => ?_))
    · obtain ⟨r1, r2, r3⟩ := hr
      exact ⟨r1,by omega,by omega⟩
    · obtain ⟨r1, r2, r3⟩ := hr
      exact ⟨r1,by omega,by omega⟩
theorem draw5_evs (b:List Int) (hb:Code b) (p:Int) (h0:0≤p) (h1:p≤8000000):Evs (fun k=>spec_l5Draw.f k b p) (TreeAt 101 40 p (p+300)):=by
  unfold spec_l5Draw.f
  refine Evs.bind (pick_evs b hb p 8 (by omega) (by omega) (by omega)) (fun t ht => ?_)
  obtain ⟨⟨t0,t1⟩,t2⟩:=ht
  obtain ⟨m,hm⟩:∃ m:Nat,t.1=(m:Int):=⟨t.1.toNat,by omega⟩
  rw [hm]
  refine (draw5_l0 b hb m t.2 [] (by omega) (by omega) (SmT.nil _ _)).mono (fun r hr => ?_)
  obtain ⟨r1,r2,r3⟩:=hr
  exact ⟨r1,by omega,by omega⟩
theorem spoil5_l0 (b:List Int) (q x:Int) (hx:x≤101) (c a:Nat) (hc:c≤200) (hca:101≤c) (ha:3≤a):∀ (d i:Nat) (l:List Entry),i+d=202→(∀ j,j<i → ∃ e ∈ l,e.f0=zname j)→SmT c a l→Evs (fun k=>spec_l5Spoil.l0 k x (i:Int) b q l) (fun r=>SmT c a r.1∧r.2=q)
  | 0, i, l, hd, hz, hl => by
    have:=znames_len (i:=i) (by omega) hz
    have:=hl.1
    omega
  | d + 1, i, l, hd, hz, hl => by
    refine Evs.step (fun k=>spec_l5Spoil.l0.eq_2 ..) (Evs.ite (fun cc=>Evs.sb ?_) (fun _=>Evs.ret ⟨hl,rfl⟩))
    have hn:=znames_len (i:=i) (by omega) hz
    refine Evs.pos (by rw [son_size];show 1+2≤9223372036854775807;omega) ?_
    rw [zname_is i (by omega)]
    refine Evs.bind (Evs.of (spec_set_ev l (by have:=hl.1;omega) (zname i) ⟨#[]⟩ false) (Q:=fun t=>t=setR ⟨zname i,⟨#[]⟩,false⟩ l) rfl) (fun t ht => ?_)
    subst ht
    rw [w64 (n:=(i:Int)+1) (by omega) (by omega),show (i:Int)+1=((i+1:Nat):Int) from by omega]
    have hs:=hl.set (e:=⟨zname i,⟨#[]⟩,false⟩) ⟨by rw [zname_size];exact ha,Nat.zero_le _⟩
    refine spoil5_l0 b q x hx c a hc hca ha d (i+1) _ (by omega) (zset (by omega) hz _ _) ⟨?_,hs.2⟩
    have:=setR_len ⟨zname i,⟨#[]⟩,false⟩ l
    omega
theorem spoil5_j0 (b:List Int) (hb:Code b) (p:Int) (h0:0≤p) (h1:p≤8000000) (c a:Nat) (hc:c≤190) (hca:101≤c) (ha:a≤100000) (l:List Entry) (hl:SmT c a l) (hn:0<l.length):Evs (fun k=>spec_l5Spoil.j0 k b p l) (TreeAt (c+2) (a+1600) p (p+10)):=by
  have hlc:=hl.1
  refine Evs.step (fun k=>spec_l5Spoil.j0.eq_2 ..) (Evs.bind (pick_evs b hb p (l.length:Int) (by omega) (by omega) (by omega)) (fun t ht => ?_))
  obtain ⟨⟨t0,t1⟩,t2⟩:=ht
  refine Evs.bind (pick_evs b hb t.2 5 (by omega) (by omega) (by omega)) (fun u hu => ?_)
  obtain ⟨⟨u0,u1⟩,u2⟩:=hu
  obtain ⟨m,hm⟩:∃ m:Nat,t.1=(m:Int):=⟨t.1.toNat,by omega⟩
  have hml:m<l.length:=by omega
  rw [hm,rdE_eq hml]
  have hat:=hl.at hml
  have hl2:=hl.mono (c':=c+1) (a':=a+1600) (by omega) (by omega)
  refine Evs.ite (fun _=>Evs.pos (by omega) (Evs.pos (by omega) (Evs.bind (spoil_evs b hb u.2 (by omega) (by omega) l[m].f0 (by omega)) (fun v hv => ?_)))) (fun _=>Evs.ite (fun _ => ?_) (fun _=>Evs.ite (fun _ => ?_) (fun _=>Evs.ite (fun _ => ?_) (fun _ => ?_))))
  · obtain ⟨v1, v2, v3⟩ := hv
    exact Evs.ret ⟨(hl2.put1 (e:=⟨v.1,l[m].f1,l[m].f2⟩) ⟨by show v.1.size≤_;omega,by show l[m].f1.size≤_;omega⟩ _).mono (by omega) (Nat.le_refl _),by show p≤v.2;omega,by show v.2≤_;omega⟩
  · refine Evs.bind (pick_evs b hb u.2 2 (by omega) (by omega) (by omega)) (fun v hv => ?_)
    obtain ⟨⟨v0,v1⟩,v2⟩:=hv
    rw [w64 (n:=1500+v.1) (by omega) (by omega)]
    refine Evs.bind (many_evs' ⟨#[116]⟩ _ (by decide) (by omega) (by omega)) (fun x hx => ?_)
    have hz:(⟨#[116]⟩:ByteArray).size=1:=rfl
    rw [hz,Nat.mul_one] at hx
    exact Evs.pos (by omega) (Evs.pos (by omega) (Evs.ret ⟨(hl2.put1 (e:=⟨l[m].f0,x,l[m].f2⟩) ⟨by show l[m].f0.size≤_;omega,by show x.size≤_;omega⟩ _).mono (by omega) (Nat.le_refl _),by show p≤v.2;omega,by show v.2≤_;omega⟩))
  · exact Evs.pos (by omega) (Evs.pos (by omega) (Evs.pos (by omega) (Evs.ret ⟨((hl.mono (Nat.le_refl _) (by omega:a≤a+1600)).snoc (e:=⟨l[m].f0,l[m].f1,l[m].f2⟩) ⟨by show l[m].f0.size≤_;omega,by show l[m].f1.size≤_;omega⟩).mono (by omega) (Nat.le_refl _),by show p≤u.2;omega,by show u.2≤_;omega⟩)))
  · refine Evs.bind (pick_evs b hb u.2 2 (by omega) (by omega) (by omega)) (fun v hv => ?_)
    obtain ⟨⟨v0,v1⟩,v2⟩:=hv
    rw [w64 (n:=100+v.1) (by omega) (by omega)]
    refine (spoil5_l0 b v.2 _ (by omega) (c+1) (a+1600) (by omega) (by omega) (by omega) 202 0 l (by omega) (fun j hj=>by omega) hl2).mono (fun r hr => ?_)
    exact ⟨hr.1.mono (by omega) (Nat.le_refl _),by have:=hr.2;omega,by have:=hr.2;omega⟩
  · have e1 : (l[m].f0 ++ (⟨#[47, 105, 110]⟩ : ByteArray)).size = l[m].f0.size + 3 := ByteArray.size_append
    have e2:(l[m].f0++(⟨#[33,98]⟩:ByteArray)).size=l[m].f0.size+2:=ByteArray.size_append
    refine Evs.pos (by omega) (Evs.pos (by omega) (Evs.pos (by omega) (Evs.bind (Evs.of (spec_set_ev l (by omega) (l[m].f0++(⟨#[47,105,110]⟩:ByteArray)) ⟨#[]⟩ false) (Q:=fun t=>t=setR ⟨l[m].f0++(⟨#[47,105,110]⟩:ByteArray),⟨#[]⟩,false⟩ l) rfl) (fun y hy => ?_))))
    have hs:=(hl.mono (Nat.le_refl _) (by omega:a≤a+1600)).set (e:=⟨l[m].f0++(⟨#[47,105,110]⟩:ByteArray),⟨#[]⟩,false⟩) ⟨by show (l[m].f0++(⟨#[47,105,110]⟩:ByteArray)).size≤_;omega,Nat.zero_le _⟩
    rw [←hy] at hs
    refine Evs.bind (pick_evs b hb u.2 2 (by omega) (by omega) (by omega)) (fun v hv => ?_)
    obtain ⟨⟨v0,v1⟩,v2⟩:=hv
    refine Evs.ite (fun _=>Evs.pos (by omega) (Evs.bind (Evs.of (spec_set_ev y (by have:=hs.1;omega) (l[m].f0++(⟨#[33,98]⟩:ByteArray)) ⟨#[]⟩ false) (Q:=fun t=>t=setR ⟨l[m].f0++(⟨#[33,98]⟩:ByteArray),⟨#[]⟩,false⟩ y) rfl) (fun z hz => ?_))) (fun _=>Evs.ret ⟨hs.mono (by omega) (Nat.le_refl _),by show p≤v.2;omega,by show v.2≤_;omega⟩)
    subst hz
    have hs2:=hs.set (e:=⟨l[m].f0++(⟨#[33,98]⟩:ByteArray),⟨#[]⟩,false⟩) ⟨by show (l[m].f0++(⟨#[33,98]⟩:ByteArray)).size≤_;omega,Nat.zero_le _⟩
    exact Evs.ret ⟨hs2.mono (by omega) (Nat.le_refl _),by show p≤v.2;omega,by show v.2≤_;omega⟩
theorem copy5_eq (l:List Entry) (hl:l.length≤1048576):spec_l5Copy.f l=some l:=by
  unfold spec_l5Copy.f
  rw [Option.bind_some,if_pos (by simp;omega),List.nil_append]
theorem spoil5_evs (b:List Int) (hb:Code b) (p:Int) (h0:0≤p) (h1:p≤8000000) (c a:Nat) (hc:c≤190) (hca:101≤c) (ha:a≤100000) (h1a:1≤a) (l:List Entry) (hl:SmT c a l):Evs (fun k=>spec_l5Spoil.f k b p l) (TreeAt (c+2) (a+1600) p (p+10)):=by
  unfold spec_l5Spoil.f
  rw [copy5_eq l (by have:=hl.1;omega)]
  refine Evs.sb (Evs.ite (fun _=>spoil5_j0 b hb p h0 h1 c a hc hca ha _ ⟨by show 1≤c;omega,fun e he => ?_⟩ (by decide)) (fun hn=>spoil5_j0 b hb p h0 h1 c a hc hca ha l hl (by omega)))
  rw [List.mem_singleton.1 he]
  exact ⟨by show (⟨#[97]⟩:ByteArray).size≤a;exact h1a,Nat.zero_le _⟩

end Go.Proofs.YtknagppkeodggaaDoor.Pure


namespace Go.Proofs.YtknagppkeodggaaDoor.Pure
open Go Go.RowKit Go.Proofs.YtknagppkeodggaaDoor.P Go.Proofs.YtknagppkeodggaaDoorW.PrintWords Go.Proofs.YtknagppkeodggaaDoorW.PrintLast
set_option linter.unusedVariables false
set_option linter.unusedSimpArgs false

theorem any5_evs (b:List Int) (hb:Code b) (p:Int) (h0:0≤p) (h1:p≤7000000):Evs (fun k=>spec_l5Any.f k b p) (TreeAt 103 1700 p (p+320)):=by
  unfold spec_l5Any.f
  refine Evs.bind (draw5_evs b hb p h0 (by omega)) (fun t ht => ?_)
  obtain ⟨t1,t2,t3⟩:=ht
  refine Evs.bind (pick_evs b hb t.2 10 (by omega) (by omega) (by omega)) (fun u hu => ?_)
  obtain ⟨⟨u0,u1⟩,u2⟩:=hu
  refine Evs.ite (fun _=>Evs.bind (spoil5_evs b hb u.2 (by omega) (by omega) 101 40 (by omega) (by omega) (by omega) (by omega) t.1 t1) (fun v hv => ?_)) (fun _=>Evs.ret ⟨t1.mono (by omega) (by omega),by show p≤u.2;omega,by show u.2≤_;omega⟩)
  obtain ⟨v1,v2,v3⟩:=hv
  exact Evs.ret ⟨v1.mono (by omega) (by omega),by show p≤v.2;omega,by show v.2≤_;omega⟩

end Go.Proofs.YtknagppkeodggaaDoor.Pure


namespace Go.Proofs.YtknagppkeodggaaDoor.Pure
open Go Go.RowKit Go.Proofs.YtknagppkeodggaaDoor.P Go.Proofs.YtknagppkeodggaaDoorW.PrintWords Go.Proofs.YtknagppkeodggaaDoorW.PrintLast
set_option linter.unusedVariables false
set_option linter.unusedSimpArgs false

def GlobAt (p:Int) (r:ByteArray×Int):Prop:=r.1.size≤40∧p≤r.2∧r.2≤p+10
theorem glob_l0 (b:List Int) (hb:Code b):∀ (d:Nat) (out:ByteArray) (p:Int),out.size+7*d≤1000→0≤p→p+d≤100000000→Evs (fun k=>spec_l4Glob.l0 k out (d:Int) b p) (fun r=>r.1.size≤out.size+7*d∧r.2=p+d)
  | 0,out,p,_,_,_=>Evs.step (fun k=>spec_l4Glob.l0.eq_2 ..) (Evs.neg (by omega) (Evs.ret ⟨Nat.le_refl _,by simp⟩))
  | d + 1, out, p, h1, h3, h4 => by
    refine Evs.step (fun k=>spec_l4Glob.l0.eq_2 ..) (Evs.pos (by omega) (Evs.pos (by omega) (Evs.sb (Evs.bind (pick_evs b hb p 9 (by omega) (by omega) (by omega)) (fun t ht => ?_)))))
    obtain ⟨⟨t0,t1⟩,t2⟩:=ht
    have hx:=rd_in (l:=[(⟨#[42]⟩:ByteArray),(⟨#[42,42]⟩:ByteArray),(⟨#[120,42]⟩:ByteArray),(⟨#[63]⟩:ByteArray),(⟨#[42,120,42]⟩:ByteArray),(⟨#[63,63]⟩:ByteArray),(⟨#[42,46,107]⟩:ByteArray),(⟨#[120]⟩:ByteArray),(⟨#[97]⟩:ByteArray)]) t0 (by simpa using t1)
    refine Evs.pos t0 (Evs.pos (by simpa using t1) ?_)
    revert hx
    generalize rdOf ByteArray.empty [(⟨#[42]⟩:ByteArray),(⟨#[42,42]⟩:ByteArray),(⟨#[120,42]⟩:ByteArray),(⟨#[63]⟩:ByteArray),(⟨#[42,120,42]⟩:ByteArray),(⟨#[63,63]⟩:ByteArray),(⟨#[42,46,107]⟩:ByteArray),(⟨#[120]⟩:ByteArray),(⟨#[97]⟩:ByteArray)] t.1=x
    intro hx
    have key:x.size≤6:=by
      simp only [List.mem_cons,List.not_mem_nil,or_false] at hx
      rcases hx with h|h|h|h|h|h|h|h|h <;> rw [h] <;> decide
    have e1:(out++(⟨#[47]⟩:ByteArray)).size=out.size+1:=ByteArray.size_append
    have e2:(out++(⟨#[47]⟩:ByteArray)++x).size=(out++(⟨#[47]⟩:ByteArray)).size+x.size:=ByteArray.size_append
    refine Evs.pos (by omega) ?_
    rw [w64 (n:=((d+1:Nat):Int) - 1) (by omega) (by omega),show ((d+1:Nat):Int) - 1=(d:Int) from by omega,t2]
    refine (glob_l0 b hb d _ (p+1) (by omega) (by omega) (by omega)).mono (fun r hr => ?_)
    obtain ⟨r1,r3⟩:=hr
    exact ⟨by omega,by omega⟩
theorem glob_evs (b:List Int) (hb:Code b) (p:Int) (h0:0≤p) (h1:p≤10000000):Evs (fun k=>spec_l4Glob.f k b p) (GlobAt p):=by
  unfold spec_l4Glob.f
  refine Evs.sb (Evs.bind (pick_evs b hb p 5 (by omega) (by omega) (by omega)) (fun u hu => ?_))
  obtain ⟨⟨u0,u1⟩,u2⟩:=hu
  have hx:=rd_in (l:=[(⟨#[42]⟩:ByteArray),(⟨#[42,42]⟩:ByteArray),(⟨#[97]⟩:ByteArray),(⟨#[63]⟩:ByteArray),(⟨#[98,42]⟩:ByteArray)]) u0 (by simpa using u1)
  refine Evs.pos u0 (Evs.pos (by simpa using u1) ?_)
  revert hx
  generalize rdOf ByteArray.empty [(⟨#[42]⟩:ByteArray),(⟨#[42,42]⟩:ByteArray),(⟨#[97]⟩:ByteArray),(⟨#[63]⟩:ByteArray),(⟨#[98,42]⟩:ByteArray)] u.1=x
  intro hx
  have key:x.size≤2:=by
    simp only [List.mem_cons,List.not_mem_nil,or_false] at hx
    rcases hx with h|h|h|h|h <;> rw [h] <;> decide
  refine Evs.bind (pick_evs b hb u.2 4 (by omega) (by omega) (by omega)) (fun v hv => ?_)
  obtain ⟨⟨v0,v1⟩,v2⟩:=hv
  obtain ⟨m,hm⟩:∃ m:Nat,v.1=(m:Int):=⟨v.1.toNat,by omega⟩
  rw [hm]
  refine (glob_l0 b hb m _ v.2 (by omega) (by omega) (by omega)).mono (fun r hr => ?_)
  obtain ⟨r1,r3⟩:=hr
  exact ⟨by omega,by omega,by omega⟩
def MatchedAt (r:ByteArray×ByteArray):Prop:=r.1.size≤2000∧r.2.size≤2000
theorem drawMatch_j1 (b:List Int) (hb:Code b) (p:Int) (h0:0≤p) (h1:p≤9000000) (x g:ByteArray) (hx:x.size≤1900) (hg:g.size≤1900):Evs (fun k=>spec_DrawMatch.j1 k x g b p) MatchedAt:=by
  refine Evs.step (fun k=>spec_DrawMatch.j1.eq_2 ..) (Evs.bind (pick_evs b hb p 16 (by omega) (by omega) (by omega)) (fun t ht => ?_))
  obtain ⟨⟨t0,t1⟩,t2⟩:=ht
  refine Evs.ite (fun _=>Evs.bind (spoil_evs b hb t.2 (by omega) (by omega) g (by omega)) (fun v hv => ?_)) (fun _=>Evs.ite (fun _=>Evs.bind (spoil_evs b hb t.2 (by omega) (by omega) x (by omega)) (fun v hv => ?_)) (fun _=>Evs.ite (fun _ => ?_) (fun _=>Evs.ret ⟨by show g.size≤_;omega,by show x.size≤_;omega⟩)))
  · obtain ⟨v1, v2, v3⟩ := hv
    exact Evs.ret ⟨by show v.1.size≤_;omega,by show x.size≤_;omega⟩
  · obtain ⟨v1, v2, v3⟩ := hv
    exact Evs.ret ⟨by show g.size≤_;omega,by show v.1.size≤_;omega⟩
  · refine Evs.bind (many_evs' ⟨#[42, 97]⟩ 9 (by decide) (by omega) (by omega)) (fun y hy => Evs.bind (many_evs' ⟨#[97]⟩ 18 (by decide) (by omega) (by omega)) (fun z hz => Evs.sb (Evs.bind (pick_evs b hb t.2 2 (by omega) (by omega) (by omega)) (fun u hu => ?_))))
    obtain ⟨⟨u0,u1⟩,u2⟩:=hu
    have s1:(⟨#[42,97]⟩:ByteArray).size=2:=rfl
    have s2:(⟨#[97]⟩:ByteArray).size=1:=rfl
    rw [s1] at hy
    rw [s2] at hz
    have hw:=rd_in (l:=[(⟨#[]⟩:ByteArray),(⟨#[98]⟩:ByteArray)]) u0 (by simpa using u1)
    refine Evs.pos u0 (Evs.pos (by simpa using u1) ?_)
    revert hw
    generalize rdOf ByteArray.empty [(⟨#[]⟩:ByteArray),(⟨#[98]⟩:ByteArray)] u.1=w
    intro hw
    have key:w.size≤1:=by
      simp only [List.mem_cons,List.not_mem_nil,or_false] at hw
      rcases hw with h|h <;> rw [h] <;> decide
    have e1:(z++w).size=z.size+w.size:=ByteArray.size_append
    exact Evs.pos (by omega) (Evs.ret ⟨by show y.size≤_;omega,by show (z++w).size≤_;omega⟩)
theorem drawMatch_end (b:List Int) (hb:Code b) (x:ByteArray) (hx:x.size≤40) (parts:List ByteArray) (p:Int) (h0:0≤p) (h1:p≤8000000) (g:ByteArray) (hg:g.size≤1500) (i:Int) (hi:¬ i<(parts.length:Int)):Evs (fun k=>spec_DrawMatch.l0 k x g parts i b p) MatchedAt:=by
  refine Evs.step (fun k=>spec_DrawMatch.l0.eq_2 ..) (Evs.neg hi (Evs.bind (pick_evs b hb p 6 (by omega) (by omega) (by omega)) (fun t ht => ?_)))
  obtain ⟨⟨t0,t1⟩,t2⟩:=ht
  refine Evs.ite (fun _=>Evs.ite (fun _=>Evs.pos (by omega) (Evs.pos (by omega) (Evs.sb (Evs.bind (pick_evs b hb t.2 2 (by omega) (by omega) (by omega)) (fun u hu => ?_))))) (fun _=>drawMatch_j1 b hb t.2 (by omega) (by omega) x g (by omega) (by omega))) (fun _=>drawMatch_j1 b hb t.2 (by omega) (by omega) x g (by omega) (by omega))
  obtain ⟨⟨u0,u1⟩,u2⟩:=hu
  have hw:=rd_in (l:=[(⟨#[42,42,47]⟩:ByteArray)++g,g++(⟨#[47,42,42]⟩:ByteArray)]) u0 (by simpa using u1)
  refine Evs.pos u0 (Evs.pos (by simpa using u1) ?_)
  revert hw
  generalize rdOf ByteArray.empty [(⟨#[42,42,47]⟩:ByteArray)++g,g++(⟨#[47,42,42]⟩:ByteArray)] u.1=w
  intro hw
  have e1:((⟨#[42,42,47]⟩:ByteArray)++g).size=3+g.size:=ByteArray.size_append
  have e2:(g++(⟨#[47,42,42]⟩:ByteArray)).size=g.size+3:=ByteArray.size_append
  have key:w.size≤1503:=by
    simp only [List.mem_cons,List.not_mem_nil,or_false] at hw
    rcases hw with h|h <;> rw [h] <;> omega
  exact drawMatch_j1 b hb u.2 (by omega) (by omega) x w (by omega) (by omega)
theorem drawMatch_l0 (b:List Int) (hb:Code b) (x:ByteArray) (hx:x.size≤40) (parts:List ByteArray) (hp:∀ y ∈ parts,1≤y.size∧y.size≤40) (hl:parts.length≤20):∀ (d i:Nat) (p:Int) (g:ByteArray),i+d=parts.length→0≤p→p+d≤8000000→g.size+50*d≤1500→Evs (fun k=>spec_DrawMatch.l0 k x g parts (i:Int) b p) MatchedAt
  | 0,i,p,g,hd,h0,h1,hg=>drawMatch_end b hb x hx parts p h0 (by omega) g (by omega) _ (by omega)
  | d + 1, i, p, g, hd, h0, h1, hg => by
    have hi:i<parts.length:=by omega
    obtain ⟨y1,y2⟩:=hp parts[i] (List.getElem_mem hi)
    refine Evs.step (fun k=>spec_DrawMatch.l0.eq_2 ..) (Evs.pos (by omega) (Evs.pos (by omega) ?_))
    rw [rd_eq _ hi]
    generalize parts[i]=y at y1 y2 ⊢
    rw [w64 (n:=(y.size:Int) - 1) (by omega) (by omega),w64 (n:=(i:Int)+1) (by omega) (by omega),show (i:Int)+1=((i+1:Nat):Int) from by omega]
    have x0:(y.extract 0 1).size=1:=by rw [ByteArray.size_extract];omega
    have x1:(y.extract 1 y.size).size=y.size - 1:=by rw [ByteArray.size_extract];omega
    have x2:(y.extract ((y.size:Int) - 1).toNat y.size).size=1:=by rw [ByteArray.size_extract];omega
    refine Evs.pos (by omega) (Evs.pos (by omega) (Evs.pos (by omega) (Evs.pos (by omega) (Evs.pos (by omega) (Evs.pos (by omega) (Evs.pos (by omega) (Evs.sb (Evs.bind (pick_evs b hb p 6 (by omega) (by omega) (by omega)) (fun t ht => ?_)))))))))
    obtain ⟨⟨t0,t1⟩,t2⟩:=ht
    have e0:(y.extract 0 1++(⟨#[42]⟩:ByteArray)).size=(y.extract 0 1).size+1:=ByteArray.size_append
    have e1:((⟨#[63]⟩:ByteArray)++y.extract 1 y.size).size=1+(y.extract 1 y.size).size:=ByteArray.size_append
    have e2:((⟨#[42]⟩:ByteArray)++y.extract ((y.size:Int) - 1).toNat y.size).size=1+(y.extract ((y.size:Int) - 1).toNat y.size).size:=ByteArray.size_append
    have hw:=rd_in (l:=[y,(⟨#[42]⟩:ByteArray),y.extract 0 1++(⟨#[42]⟩:ByteArray),(⟨#[42,42]⟩:ByteArray),(⟨#[63]⟩:ByteArray)++y.extract 1 y.size,(⟨#[42]⟩:ByteArray)++y.extract ((y.size:Int) - 1).toNat y.size]) t0 (by simpa using t1)
    refine Evs.pos t0 (Evs.pos (by simpa using t1) ?_)
    revert hw
    generalize rdOf ByteArray.empty [y,(⟨#[42]⟩:ByteArray),y.extract 0 1++(⟨#[42]⟩:ByteArray),(⟨#[42,42]⟩:ByteArray),(⟨#[63]⟩:ByteArray)++y.extract 1 y.size,(⟨#[42]⟩:ByteArray)++y.extract ((y.size:Int) - 1).toNat y.size] t.1=w
    intro hw
    have key:w.size≤41:=by
      simp only [List.mem_cons,List.not_mem_nil,or_false] at hw
      have s1:(⟨#[42]⟩:ByteArray).size=1:=rfl
      have s2:(⟨#[42,42]⟩:ByteArray).size=2:=rfl
      rcases hw with h|h|h|h|h|h <;> rw [h] <;> omega
    have f1:(g++(⟨#[47]⟩:ByteArray)).size=g.size+1:=ByteArray.size_append
    have f2:(g++(⟨#[47]⟩:ByteArray)++w).size=(g++(⟨#[47]⟩:ByteArray)).size+w.size:=ByteArray.size_append
    have f3:(g++w).size=g.size+w.size:=ByteArray.size_append
    refine Evs.ite (fun _=>Evs.pos (by omega) (Evs.pos (by omega) ?_)) (fun _=>Evs.pos (by omega) ?_)
    · exact drawMatch_l0 b hb x hx parts hp hl d (i+1) t.2 _ (by omega) (by omega) (by omega) (by omega)
    · exact drawMatch_l0 b hb x hx parts hp hl d (i+1) t.2 _ (by omega) (by omega) (by omega) (by omega)
theorem pieces_few {x:ByteArray} (h:fullL x.data.toList):2*(piecesB 47 x).length≤x.size+1:=by
  unfold piecesB
  rw [List.length_map]
  have ht:=cuts_total 47 x.data.toList []
  have hs:∀ L:List (List UInt8),(∀ y ∈ L,y ≠ [])→L.length≤(L.map List.length).sum:=by
    intro L
    induction L with
    | nil=>intro _;simp
    | cons a r ih =>
      intro hL
      have:=ih (fun y hy=>hL y (List.mem_cons_of_mem _ hy))
      have h1:1≤a.length:=List.length_pos_iff.2 (hL a List.mem_cons_self)
      simp only [List.map_cons,List.sum_cons,List.length_cons]
      omega
  have:=hs _ h
  rw [size_toList] at ht
  simp only [List.length_nil] at ht
  omega
theorem drawMatch_evs (l:List Int) (h:∀ x ∈ l,0≤x∧x≤255):Evs (fun k=>spec_DrawMatch.f k l) MatchedAt:=by
  obtain ⟨b,hb,ho⟩:=open_ev l h
  unfold spec_DrawMatch.f
  rw [ho]
  refine Evs.sb (Evs.bind (path_evs b hb 0 (by omega) (by omega)) (fun x hx => ?_))
  obtain ⟨x1,x2,x3,x4⟩:=hx
  refine Evs.bind (glob_evs b hb x.2 (by omega) (by omega)) (fun g hg => ?_)
  obtain ⟨g1,g2,g3⟩:=hg
  refine Evs.bind (pick_evs b hb g.2 2 (by omega) (by omega) (by omega)) (fun t ht => ?_)
  obtain ⟨⟨t0,t1⟩,t2⟩:=ht
  refine Evs.ite (fun _=>Evs.bind (Evs.of (spec_parts_ev x.1 (by omega)) (Q:=fun y=>y=piecesB 47 x.1) rfl) (fun y hy => ?_)) (fun _=>drawMatch_j1 b hb t.2 (by omega) (by omega) x.1 g.1 (by omega) (by omega))
  subst hy
  have hf:=pieces_few x2
  have hs:∀ y ∈ piecesB 47 x.1,1≤y.size∧y.size≤40:=by
    intro y hy
    refine ⟨?_,by have:=piecesB_size 47 x.1 y hy;omega⟩
    unfold piecesB at hy
    obtain ⟨z,hz,rfl⟩:=List.mem_map.1 hy
    rw [ofBytes_size]
    exact List.length_pos_iff.2 (x2 z hz)
  have:=drawMatch_l0 b hb x.1 x1 (piecesB 47 x.1) hs (by omega) (piecesB 47 x.1).length 0 t.2 ⟨#[]⟩ (by omega) (by omega) (by omega) (by
    have hz:(⟨#[]⟩:ByteArray).size=0:=rfl
    omega)
  exact this
def PickedAt (r:List Entry×List ByteArray):Prop:=SmT 103 1700 r.1∧r.2.length≤30 ∧ ∀ g ∈ r.2,g.size≤200
theorem drawPick_l1 (b : List Int) (hb : Code b) (p : Int) (h0 : 0 ≤ p) (h1 : p ≤ 9000000) (l : List Entry) (hl : SmT 103 1700 l) : ∀ (d : Nat) (gs : List ByteArray), 21 ≤ gs.length + d → gs.length ≤ 21 → (∀ g ∈ gs, g.size ≤ 200) → Evs (fun k => spec_DrawPick.l1 k gs b p l) PickedAt
  | 0, gs, h2, h3, hz => by
    refine Evs.step (fun k=>spec_DrawPick.l1.eq_2 ..) (Evs.neg (by omega) (Evs.bind (pick_evs b hb p 2 (by omega) (by omega) (by omega)) (fun t ht => ?_)))
    obtain ⟨⟨t0,t1⟩,t2⟩:=ht
    rw [w64 (n:=20+t.1) (by omega) (by omega)]
    exact Evs.pos (by omega) (Evs.pos (by omega) (Evs.ret ⟨hl,by show (gs.take _).length≤30;rw [List.length_take];omega,fun g hg=>hz g (List.mem_of_mem_take hg)⟩))
  | d + 1, gs, h2, h3, hz => by
    refine Evs.step (fun k=>spec_DrawPick.l1.eq_2 ..) (Evs.ite (fun c=>Evs.pos (by omega) ?_) (fun c=>Evs.bind (pick_evs b hb p 2 (by omega) (by omega) (by omega)) (fun t ht => ?_)))
    · refine drawPick_l1 b hb p h0 h1 l hl d _ (by rw [List.length_append, List.length_singleton]; omega) (by rw [List.length_append, List.length_singleton]; omega) (fun g hg => ?_)
      rcases List.mem_append.1 hg with hg|hg
      · exact hz g hg
      · rw [List.mem_singleton.1 hg]
        decide
    · obtain ⟨⟨t0, t1⟩, t2⟩ := ht
      rw [w64 (n:=20+t.1) (by omega) (by omega)]
      exact Evs.pos (by omega) (Evs.pos (by omega) (Evs.ret ⟨hl,by show (gs.take _).length≤30;rw [List.length_take];omega,fun g hg=>hz g (List.mem_of_mem_take hg)⟩))
theorem drawPick_l0 (b : List Int) (hb : Code b) (l : List Entry) (hl : SmT 103 1700 l) : ∀ (d : Nat) (gs : List ByteArray) (p : Int), 0 ≤ p → p + 20 * d ≤ 8000000 → gs.length + d ≤ 20 → (∀ g ∈ gs, g.size ≤ 200) → Evs (fun k => spec_DrawPick.l0 k gs (d : Int) b p l) PickedAt
  | 0, gs, p, h0, h1, h2, hz => by
    refine Evs.step (fun k=>spec_DrawPick.l0.eq_2 ..) (Evs.neg (by omega) (Evs.bind (pick_evs b hb p 16 (by omega) (by omega) (by omega)) (fun t ht => ?_)))
    obtain ⟨⟨t0,t1⟩,t2⟩:=ht
    exact Evs.ite (fun _=>drawPick_l1 b hb t.2 (by omega) (by omega) l hl 21 gs (by omega) (by omega) hz) (fun _=>Evs.ret ⟨hl,by show gs.length≤30;omega,hz⟩)
  | d + 1, gs, p, h0, h1, h2, hz => by
    have snoc:∀ x:ByteArray,x.size≤200 → ∀ g ∈ gs ++ [x],g.size≤200:=fun x hx g hg=>by
      rcases List.mem_append.1 hg with hg|hg
      · exact hz g hg
      · rw [List.mem_singleton.1 hg]
        exact hx
    refine Evs.step (fun k=>spec_DrawPick.l0.eq_2 ..) (Evs.pos (by omega) (Evs.bind (glob_evs b hb p h0 (by omega)) (fun g hg => ?_)))
    obtain ⟨g1,g2,g3⟩:=hg
    refine Evs.bind (pick_evs b hb g.2 8 (by omega) (by omega) (by omega)) (fun t ht => ?_)
    obtain ⟨⟨t0,t1⟩,t2⟩:=ht
    rw [w64 (n:=((d+1:Nat):Int) - 1) (by omega) (by omega),show ((d+1:Nat):Int) - 1=(d:Int) from by omega]
    refine Evs.ite (fun _=>Evs.bind (spoil_evs b hb t.2 (by omega) (by omega) g.1 (by omega)) (fun v hv => ?_)) (fun _=>Evs.pos (by omega) ?_)
    · obtain ⟨v1, v2, v3⟩ := hv
      exact Evs.pos (by omega) (drawPick_l0 b hb l hl d _ v.2 (by omega) (by omega) (by rw [List.length_append,List.length_singleton];omega) (snoc v.1 (by omega)))
    · exact drawPick_l0 b hb l hl d _ t.2 (by omega) (by omega) (by rw [List.length_append,List.length_singleton];omega) (snoc g.1 (by omega))
theorem drawPick_evs (l:List Int) (h:∀ x ∈ l,0≤x∧x≤255):Evs (fun k=>spec_DrawPick.f k l) PickedAt:=by
  obtain ⟨b,hb,ho⟩:=open_ev l h
  unfold spec_DrawPick.f
  rw [ho]
  refine Evs.sb (Evs.bind (any5_evs b hb 0 (by omega) (by omega)) (fun d hd => ?_))
  obtain ⟨d1,d2,d3⟩:=hd
  refine Evs.bind (pick_evs b hb d.2 4 (by omega) (by omega) (by omega)) (fun t ht => ?_)
  obtain ⟨⟨t0,t1⟩,t2⟩:=ht
  obtain ⟨m,hm⟩:∃ m:Nat,t.1=(m:Int):=⟨t.1.toNat,by omega⟩
  rw [hm]
  exact drawPick_l0 b hb d.1 d1 m [] t.2 (by omega) (by omega) (by simp;omega) (fun g hg=>by cases hg)

end Go.Proofs.YtknagppkeodggaaDoor.Pure


namespace Go.Proofs.YtknagppkeodggaaDoor.Pure
open Go Go.RowKit Go.Proofs.YtknagppkeodggaaDoor.P Go.Proofs.YtknagppkeodggaaDoorW.PrintWords Go.Proofs.YtknagppkeodggaaDoorW.PrintLast
set_option linter.unusedVariables false
set_option linter.unusedSimpArgs false

section
variable {gs:List ByteArray} (hgs:∀ g ∈ gs,g.size≤200) (hlg:gs.length≤30) {x:List Entry} (hz:∀ e ∈ x,e.f0.size≤1048576) (hlx:x.length≤1000)
include hgs hlg hz hlx
theorem globs_l1 (n : Nat) (hn : n < x.length) (next : Ev (fun k => laws_FnGlobs.l0 k gs ((n + 1 : Nat) : Int) x) true) : ∀ (d j : Nat) (f : Bool), j + d = gs.length → (f = true ∨ anyMatch (gs.drop j) x[n].f0 = true) → Ev (fun k => laws_FnGlobs.l1 k gs (n : Int) f (j : Int) x) true
  | 0, j, f, hd, hf => by
    have:f=true:=by
      rcases hf with hf|hf
      · exact hf
      · rw [List.drop_of_length_le (by omega)] at hf
        cases hf
    subst this
    refine Ev.step (fun k=>laws_FnGlobs.l1.eq_2 ..) (Ev.neg (by omega) (Ev.pos rfl ?_))
    rw [w64 (n:=(n:Int)+1) (by omega) (by omega),show (n:Int)+1=((n+1:Nat):Int) from by omega]
    exact next
  | d + 1, j, f, hd, hf => by
    have hj:j<gs.length:=by omega
    refine Ev.step (fun k=>laws_FnGlobs.l1.eq_2 ..) (Ev.pos (by omega) ?_)
    rw [w64 (n:=(j:Int)+1) (by omega) (by omega),show (j:Int)+1=((j+1:Nat):Int) from by omega]
    cases f with
    | true=>exact Ev.pos rfl (globs_l1 n hn next d (j+1) true (by omega) (.inl rfl))
    | false =>
      refine Ev.neg (by simp) (Ev.pos (by omega) (Ev.pos (by omega) (Ev.pos (by omega) ?_)))
      rw [rd_eq _ hj,rdE_eq hn]
      refine Ev.bind (impl_Match_ev gs[j] x[n].f0 (by have:=hgs gs[j] (List.getElem_mem hj);omega) (hz _ (List.getElem_mem hn))) ?_
      refine globs_l1 n hn next d (j+1) _ (by omega) ?_
      rcases hf with hf|hf
      · cases hf
      · unfold anyMatch at hf ⊢
        rw [List.drop_eq_getElem_cons hj,List.any_cons,Bool.or_eq_true] at hf
        exact hf
theorem globs_l0 (hx:∀ e ∈ x,anyMatch gs e.f0=true):∀ (d n:Nat),n+d=x.length→Ev (fun k=>laws_FnGlobs.l0 k gs (n:Int) x) true
  | 0,n,hd=>Ev.step (fun k=>laws_FnGlobs.l0.eq_2 ..) (Ev.neg (by omega) (Ev.now _))
  | d + 1, n, hd => by
    have hn:n<x.length:=by omega
    exact Ev.step (fun k=>laws_FnGlobs.l0.eq_2 ..) (Ev.pos (by omega) (globs_l1 hgs hlg hz hlx n hn (globs_l0 hx d (n+1) (by omega)) gs.length 0 false (by omega) (.inr (hx _ (List.getElem_mem hn)))))
end
theorem globs_j1 (l0:List Int) (h0:∀ x ∈ l0,0≤x∧x≤255):Evs (fun k=>laws_FnGlobs.j1 k l0) (fun r=>r=true):=by
  refine Evs.step (fun k=>laws_FnGlobs.j1.eq_2 ..) (Evs.bind (drawPick_evs l0 h0) (fun d hd => ?_))
  obtain ⟨t,gs⟩:=d
  obtain ⟨d1,d2,d3⟩:=hd
  dsimp only at d1 d2 d3 ⊢
  have hzt:=d1.big (by omega)
  have hgs:∀ g ∈ gs,g.size≤1048576:=fun g hg=>by have:=d3 g hg;omega
  refine Evs.bind (Evs.of (impl_Pick_ev t hzt gs hgs) (Q:=fun y=>y=pick t gs) rfl) (fun y hy => ?_)
  subst hy
  refine Evs.bind (Evs.of (spec_Pick_ev t hzt gs hgs) (Q:=fun y=>y=pick t gs) rfl) (fun y hy => ?_)
  subst hy
  have hl:=pick_len t gs
  refine Evs.bind (wTree_evs _ (by omega)) (fun y hy=>Evs.pos hy ?_)
  exact Evs.of (globs_l0 (x:=pick t gs) d3 d2 (fun e he=>hzt e (pick_mem he)) (by omega) (fun e he=>pick_in he) (pick t gs).length 0 (by omega)) rfl
theorem FnGlobs (l0:List Int) (h0:l0.length*1≤140737488351232 ∧ ∀ x ∈ l0,(Lit.int .u8 x).wf=true):∃ k,laws_FnGlobs.f k l0=some true:=by
  suffices h:Evs (fun k=>laws_FnGlobs.f k l0) (fun r=>r=true) by
    obtain ⟨k,r,rfl,hk⟩:=h.rounds
    exact ⟨k,hk⟩
  have hb:=bytes_of_wf h0.2
  have J1:=globs_j1 l0 hb
  unfold laws_FnGlobs.f
  refine Evs.ite (fun _=>Evs.ret rfl) (fun _=>Evs.bind (drawMatch_evs l0 hb) (fun d hd => ?_))
  obtain ⟨g,p⟩:=d
  obtain ⟨d1,d2⟩:=hd
  dsimp only at d1 d2 ⊢
  refine Evs.bind (Evs.of (impl_Match_ev g p (by omega) (by omega)) (Q:=fun y=>y=matchOk g p) rfl) (fun y hy => ?_)
  subst hy
  refine Evs.bind (Evs.of (spec_Match_ev g p (by omega) (by omega)) (Q:=fun y=>y=matchOk g p) rfl) (fun y hy => ?_)
  subst hy
  refine Evs.neg (by simp) (Evs.bind (Evs.of (spec_path_ev p) (Q:=fun y=>y=pathOk p false) rfl) (fun y hy => ?_))
  subst hy
  refine Evs.ite (fun hv => ?_) (fun _=>J1)
  have ez:(p++(⟨#[122]⟩:ByteArray)).size=p.size+1:=ByteArray.size_append
  have e1:((⟨#[122,47]⟩:ByteArray)++p).size=2+p.size:=ByteArray.size_append
  have e2:((⟨#[42,42,47]⟩:ByteArray)++g).size=3+g.size:=ByteArray.size_append
  refine Evs.bind (Evs.of (impl_Match_ev p p (by omega) (by omega)) (Q:=fun y=>y=true) (match_self hv)) (fun y hy=>Evs.pos hy (Evs.pos (by omega) ?_))
  refine Evs.bind (Evs.of (impl_Match_ev p (p++(⟨#[122]⟩:ByteArray)) (by omega) (by omega)) (Q:=fun y=>y=false) (match_other (by omega) hv)) (fun z hz => ?_)
  subst hz
  refine Evs.neg (by simp) (Evs.step (fun k=>laws_FnGlobs.j0.eq_2 ..) (Evs.neg (by simp) (Evs.ite (fun hm => ?_) (fun _=>J1))))
  refine Evs.pos (by omega) (Evs.bind (Evs.of (spec_path_ev ((⟨#[122,47]⟩:ByteArray)++p)) (Q:=fun y=>y=pathOk ((⟨#[122,47]⟩:ByteArray)++p) false) rfl) (fun z hz => ?_))
  subst hz
  refine Evs.ite (fun hp1=>Evs.pos (by omega) ?_) (fun _=>J1)
  have vg:Ev (fun k=>spec_ValidGlob.f k ((⟨#[42,42,47]⟩:ByteArray)++g)) (pathOk ((⟨#[42,42,47]⟩:ByteArray)++g) true):=by
    unfold spec_ValidGlob.f
    exact Ev.bind (spec_ok_ev _ true) (Ev.now _)
  refine Evs.bind (Evs.of vg (Q:=fun y=>y=pathOk ((⟨#[42,42,47]⟩:ByteArray)++g) true) rfl) (fun z hz => ?_)
  subst hz
  refine Evs.ite (fun hp2 => ?_) (fun _=>J1)
  exact Evs.bind (Evs.of (impl_Match_ev ((⟨#[42,42,47]⟩:ByteArray)++g) ((⟨#[122,47]⟩:ByteArray)++p) (by omega) (by omega)) (Q:=fun y=>y=true) (match_stars hm hp1 hp2)) (fun y hy=>Evs.pos hy J1)

end Go.Proofs.YtknagppkeodggaaDoor.Pure

