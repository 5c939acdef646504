/- Several texts of this claim in one file: YtkmfnmeilooogaaDoorDraw1, YtkmfnmeilooogaaDoorDrawText, YtkmfnmeilooogaaDoorDrawMergeText, YtkmfnmeilooogaaDoorPureFnMergeText. -/
import Derived.Test.YtkmfnmeilooogaaDoorM5
import Derived.Test.YtkmfnmeilooogaaDoorM7
import Derived.Test.YtkmfnmeilooogaaDoorM3
import Derived.Laws.Bits64
import Derived.Test.YtkmfnmeilooogaaDoorM4
import Derived.Test.YtkmfnmeilooogaaDoorM6
namespace Go.Proofs.YtkmfnmeilooogaaDoor.Pure
open Go Go.RowKit Go.Proofs.YtkmfnmeilooogaaDoor.P Go.Proofs.YtkmfnmeilooogaaDoorW.PrintWords Go.Proofs.YtkmfnmeilooogaaDoorW.PrintLast
set_option linter.unusedVariables false
set_option linter.unusedSimpArgs false

/-- The bytes that a reader holds. -/
def Code (b:List Int):Prop:=b.length≤2000 ∧ ∀ x ∈ b,0≤x∧x≤255
theorem code_rd {b:List Int} (h:Code b) (i:Int):0≤rd b i∧rd b i≤255:=by
  unfold rd
  rw [List.getD_eq_getElem?_getD]
  cases hx:b[i.toNat]? with
  | none=>simp
  | some x=>exact h.2 x (List.mem_of_getElem? hx)
theorem bytes_of_wf {l:List Int} (h:∀ x ∈ l,(Lit.int .u8 x).wf=true):∀ x ∈ l,0≤x∧x≤255:=fun x hx=>by
  have:=h x hx
  simp [Lit.wf,IntKind.min,IntKind.max,IntKind.signed,IntKind.bits] at this
  omega
theorem open_ev (l:List Int) (h:∀ x ∈ l,0≤x∧x≤255):∃ b,Code b∧spec_l1Open.f l=some (b,0):=by
  unfold spec_l1Open.f
  split
  · rename_i hl
    refine ⟨l.take 2000,⟨by rw [List.length_take];omega,fun x hx=>h x (List.mem_of_mem_take hx)⟩,by rw [if_pos (by omega)]⟩
  · rename_i hl
    exact ⟨l,⟨by omega,h⟩,rfl⟩

theorem xor_i64 (a b:Nat) (ha:a<9223372036854775808) (hb:b<9223372036854775808):Go.bits .xor .i64 (a:Int) (b:Int)=((a ^^^ b:Nat):Int):=by
  have hx:a ^^^ b<2 ^ 63:=Nat.xor_lt_two_pow (by omega) (by omega)
  have h1:(BitVec.ofInt 64 (a:Int)).toNat=a:=by
    rw [BitVec.ofInt_natCast,BitVec.toNat_ofNat];exact Nat.mod_eq_of_lt (by omega)
  have h2:(BitVec.ofInt 64 (b:Int)).toNat=b:=by
    rw [BitVec.ofInt_natCast,BitVec.toNat_ofNat];exact Nat.mod_eq_of_lt (by omega)
  show IntKind.i64.wrap ((BitVec.ofInt 64 (a:Int) ^^^ BitVec.ofInt 64 (b:Int)).toNat:Int)=_
  rw [BitVec.toNat_xor,h1,h2]
  generalize a ^^^ b=c at hx
  simp [IntKind.wrap,IntKind.bits,IntKind.signed]
  omega
theorem xor_range {x:Int} (h0:0≤x) (h1:x<9223372036854775808):0≤Go.bits .xor .i64 x (Int.tdiv x 64):=by
  obtain ⟨n,rfl⟩:=Int.eq_ofNat_of_zero_le h0
  rw [Int.tdiv_eq_ediv_of_nonneg h0,show ((n:Int) / 64)=((n / 64:Nat):Int) from by omega,xor_i64 n _ (by omega) (by omega)]
  exact Int.natCast_nonneg _

/-- A draw: a number below n, the reader one place further. -/
def Drawn (n r:Int):Prop:=(1≤n→0≤r∧r<n)∧(n<1→r=0)
theorem drawn_tmod {n x:Int} (hn:1≤n) (h:0≤x):Drawn n (Int.tmod x n):=by
  rw [Int.tmod_eq_emod_of_nonneg h]
  exact ⟨fun _=>⟨Int.emod_nonneg _ (by omega),Int.emod_lt_of_pos _ (by omega)⟩,fun hh=>by omega⟩
theorem pick_j0 (b:List Int) (hb:Code b) (n p:Int) (hn:1≤n) (h0:0≤p) (h1:p≤1000000000000) (hne:(b.length:Int)≠0) (k:Nat) :
    ∃ r,Drawn n r∧spec_l1Rd_pick.j0 (k+1) n false b (p+1)=some (r,p+1):=by
  simp only [spec_l1Rd_pick.j0]
  rw [if_neg (by simp),w64 (by omega) (by omega),show p+1 - 1=p from by omega,if_pos h0,if_neg hne]
  split
  · have hr := code_rd hb p
    rw [if_neg (show ¬n=0 by omega),w64 (by omega) (by omega)]
    exact ⟨_,drawn_tmod hn hr.1,rfl⟩
  · have hpos : (0 : Int) < (b.length : Int) := by omega
    have hl:=hb.1
    rw [w64 (n:=p*7) (by omega) (by omega),w64 (n:=p*7+3) (by omega) (by omega),Int.tmod_eq_emod_of_nonneg h0,Int.tmod_eq_emod_of_nonneg (show 0≤p*7+3 by omega)]
    have m1:=Int.emod_nonneg p (show (b.length:Int)≠0 by omega)
    have m2:=Int.emod_lt_of_pos p hpos
    have m3:=Int.emod_nonneg (p*7+3) (show (b.length:Int)≠0 by omega)
    have m4:=Int.emod_lt_of_pos (p*7+3) hpos
    rw [if_pos m1,if_pos m2,if_pos m3,if_pos m4,if_neg (by omega)]
    have a1:=code_rd hb (p % (b.length:Int))
    have a2:=code_rd hb ((p*7+3) % (b.length:Int))
    have a3:0≤Int.tdiv p (b.length:Int)∧Int.tdiv p (b.length:Int)≤p:=by
      rw [Int.tdiv_eq_ediv_of_nonneg h0]
      exact ⟨Int.ediv_nonneg h0 (by omega),Int.ediv_le_self _ h0⟩
    generalize rd b (p % (b.length:Int))=x1 at a1 ⊢
    generalize rd b ((p*7+3) % (b.length:Int))=x2 at a2 ⊢
    generalize Int.tdiv p (b.length:Int)=x3 at a3 ⊢
    rw [w64 (n:=x1) (by omega) (by omega),w64 (n:=x2) (by omega) (by omega),w64 (n:=x1*131) (by omega) (by omega),w64 (n:=x2*1117) (by omega) (by omega),w64 (n:=x1*131+x2*1117) (by omega) (by omega),w64 (n:=p*29) (by omega) (by omega),w64 (n:=x1*131+x2*1117+p*29) (by omega) (by omega),w64 (n:=x3) (by omega) (by omega),w64 (n:=x3*53) (by omega) (by omega),w64 (n:=x1*131+x2*1117+p*29+x3*53) (by omega) (by omega)]
    have hx:0≤x1*131+x2*1117+p*29+x3*53∧x1*131+x2*1117+p*29+x3*53<9223372036854775808:=by omega
    generalize x1*131+x2*1117+p*29+x3*53=x at hx ⊢
    have hd:0≤Int.tdiv x 64∧Int.tdiv x 64≤x:=by
      rw [Int.tdiv_eq_ediv_of_nonneg hx.1]
      omega
    rw [w64 (n:=Int.tdiv x 64) (by omega) (by omega)]
    exact ⟨_,drawn_tmod hn (xor_range hx.1 hx.2),rfl⟩
theorem pick_ev (b:List Int) (hb:Code b) (p n:Int) (h0:0≤p) (h1:p≤1000000000000):∃ r,Drawn n r∧Ev (fun k=>spec_l1Rd_pick.f k b p n) (r,p+1):=by
  unfold spec_l1Rd_pick.f
  rw [w64 (by omega) (by omega)]
  by_cases hn:n<1
  · refine ⟨0, ⟨fun h => by omega, fun _ => rfl⟩, Ev.step (f := fun _ => some (0, p + 1)) (fun k => ?_) (Ev.now _)⟩
    rw [if_pos hn]
    simp only [spec_l1Rd_pick.j0]
    rfl
  · by_cases he : (b.length : Int) = 0
    · refine ⟨0, ⟨fun h => by omega, fun _ => rfl⟩, Ev.step (f := fun _ => some (0, p + 1)) (fun k => ?_) (Ev.now _)⟩
      rw [if_neg hn,beq_iff_eq.2 he]
      simp only [spec_l1Rd_pick.j0]
      rfl
    · obtain ⟨r, hr, hj⟩ := pick_j0 b hb n p (by omega) h0 h1 he 0
      refine ⟨r,hr,Ev.neg hn ?_⟩
      rw [beq_eq_false_iff_ne.2 he]
      refine Ev.step (f:=fun _=>some (r,p+1)) (fun k => ?_) (Ev.now _)
      rw [←hj]
      simp only [spec_l1Rd_pick.j0]
/-- A draw of a number from 0 to n - 1. -/
theorem pick_some (b:List Int) (hb:Code b) (p n:Int) (h0:0≤p) (h1:p≤1000000000000) (hn:1≤n):∃ r,(0≤r∧r<n)∧Ev (fun k=>spec_l1Rd_pick.f k b p n) (r,p+1):=by
  obtain ⟨r,hr,h⟩:=pick_ev b hb p n h0 h1
  exact ⟨r,hr.1 hn,h⟩

/-- A draw with its reader: r below n, the place one further. -/
theorem pick_evs (b:List Int) (hb:Code b) (p n:Int) (h0:0≤p) (h1:p≤1000000000000) (hn:1≤n):Evs (fun k=>spec_l1Rd_pick.f k b p n) (fun x=>(0≤x.1∧x.1<n)∧x.2=p+1):=by
  obtain ⟨r,hr,h⟩:=pick_some b hb p n h0 h1 hn
  exact ⟨_,⟨hr,rfl⟩,h⟩
theorem tmod_range {a n:Int} (h0:0≤a) (hn:1≤n):0≤Int.tmod a n∧Int.tmod a n<n:=by
  rw [Int.tmod_eq_emod_of_nonneg h0]
  exact ⟨Int.emod_nonneg _ (by omega),Int.emod_lt_of_pos _ (by omega)⟩

end Go.Proofs.YtkmfnmeilooogaaDoor.Pure


namespace Go.Proofs.YtkmfnmeilooogaaDoor.Pure
open Go Go.RowKit Go.Proofs.YtkmfnmeilooogaaDoor.P Go.Proofs.YtkmfnmeilooogaaDoorW.PrintWords Go.Proofs.YtkmfnmeilooogaaDoorW.PrintLast
set_option linter.unusedVariables false
set_option linter.unusedSimpArgs false

theorem many_l0:∀ (d n:Nat) (s out:ByteArray),n<2 ^ d→s.size*2 ^ d≤1000000000→out.size+n*s.size≤1000000000→n≤1000000000→Evs (fun k=>spec_l1Many.l0 k s (n:Int) out) (fun r=>r.size=out.size+n*s.size)
  | 0, n, s, out, hn, _, _, _ => by
    obtain rfl:n=0:=by simpa using hn
    exact Evs.step (fun k=>spec_l1Many.l0.eq_2 ..) (Evs.neg (by omega) (Evs.ret (by omega)))
  | d + 1, n, s, out, hn, hs, ho, hb => by
    by_cases h0:n=0
    · subst h0
      exact Evs.step (fun k=>spec_l1Many.l0.eq_2 ..) (Evs.neg (by omega) (Evs.ret (by omega)))
    have e1:Int.tdiv (n:Int) 2=((n / 2:Nat):Int):=by rw [Int.tdiv_eq_ediv_of_nonneg (by omega)];omega
    have e2:Int.tmod (n:Int) 2=((n % 2:Nat):Int):=by rw [Int.tmod_eq_emod_of_nonneg (by omega)];omega
    have es:(s++s).size=s.size+s.size:=ByteArray.size_append
    have eo:(out++s).size=out.size+s.size:=ByteArray.size_append
    have h2:n / 2<2 ^ d:=by rw [Nat.pow_succ] at hn;omega
    have h3:(s++s).size*2 ^ d≤1000000000:=by
      rw [es,←Nat.mul_two,Nat.mul_assoc,Nat.mul_comm 2,←Nat.pow_succ]
      exact hs
    have hz:s.size≤1000000000:=by
      have:1≤2 ^ (d+1):=Nat.one_le_two_pow
      exact Nat.le_trans (Nat.le_mul_of_pos_right _ this) hs
    have hm:n*s.size=(n / 2)*(s++s).size+(n % 2)*s.size:=by
      rw [es,←Nat.mul_two,Nat.mul_comm s.size 2,←Nat.mul_assoc,←Nat.add_mul]
      congr 1
      omega
    refine Evs.step (fun k=>spec_l1Many.l0.eq_2 ..) (Evs.pos (by omega) ?_)
    rw [e1,e2,w64 (n:=((n / 2:Nat):Int)) (by omega) (by omega)]
    by_cases hp:n % 2=1
    · rw [hp, Nat.one_mul] at hm
      refine Evs.pos (by omega) (Evs.pos (by omega) (Evs.pos (by omega) ?_))
      exact (many_l0 d (n / 2) (s++s) (out++s) h2 h3 (by omega) (by omega)).mono (fun r hr=>by omega)
    · rw [show n % 2 = 0 from by omega, Nat.zero_mul] at hm
      refine Evs.neg (by omega) (Evs.pos (by omega) ?_)
      exact (many_l0 d (n / 2) (s++s) out h2 h3 (by omega) (by omega)).mono (fun r hr=>by omega)
theorem many_evs (s:ByteArray) (n:Nat) (hs:s.size≤10000) (hn:n≤10000):Evs (fun k=>spec_l1Many.f k s (n:Int)) (fun r=>r.size=n*s.size):=by
  unfold spec_l1Many.f
  have hb:n*s.size≤10000*10000:=Nat.mul_le_mul hn hs
  have hp:s.size*2 ^ 14≤10000*2 ^ 14:=Nat.mul_le_mul_right _ hs
  have he:(10000*2 ^ 14:Nat)=163840000:=by decide
  have hz:(⟨#[]⟩:ByteArray).size=0:=rfl
  exact (many_l0 14 n s ⟨#[]⟩ (by have : (2 ^ 14 : Nat) = 16384 := by decide
                                  omega) (by omega) (by omega) (by omega)).mono (fun r hr=>by omega)
theorem many_evs' (s:ByteArray) (n:Int) (hs:s.size≤10000) (h0:0≤n) (hn:n≤10000):Evs (fun k=>spec_l1Many.f k s n) (fun r=>r.size=n.toNat*s.size):=by
  have:=many_evs s n.toNat hs (by omega)
  rwa [show (n.toNat:Int)=n from by omega] at this
/-- A text that is drawn, and the reader's place. -/
def TextAt (p:Int) (r:ByteArray×Int):Prop:=r.1.size≤12∧p≤r.2∧r.2≤p+10
theorem abcd_size (t:Int) (h0:0≤t) (h1:t<4):1≤((⟨#[97,98,99,100]⟩:ByteArray).extract t.toNat (⟨#[97,98,99,100]⟩:ByteArray).size).size:=by
  rw [ByteArray.size_extract]
  have:(⟨#[97,98,99,100]⟩:ByteArray).size=4:=rfl
  omega
theorem text_l0 (b:List Int) (hb:Code b):∀ (d:Nat) (out:ByteArray) (p:Int),out.size+2*d≤1000→d≤100→0≤p→p+d≤100000000→Evs (fun k=>spec_l1Text.l0 k out (d:Int) b p) (fun r=>r.1.size=out.size+2*d∧r.2=p+d)
  | 0,out,p,_,_,_,_=>Evs.step (fun k=>spec_l1Text.l0.eq_2 ..) (Evs.neg (by omega) (Evs.ret ⟨by show out.size=out.size+2*0;omega,by simp⟩))
  | d + 1, out, p, h1, h2, h3, h4 => by
    refine Evs.step (fun k=>spec_l1Text.l0.eq_2 ..) (Evs.pos (by omega) (Evs.bind (pick_evs b hb p 4 (by omega) (by omega) (by omega)) (fun t ht => ?_)))
    obtain ⟨⟨t0,t1⟩,t2⟩:=ht
    have hs:=abcd_size t.1 t0 t1
    have hx:(((⟨#[97,98,99,100]⟩:ByteArray).extract t.1.toNat (⟨#[97,98,99,100]⟩:ByteArray).size).extract 0 1).size=1:=by
      rw [ByteArray.size_extract]
      omega
    revert hx
    generalize ((⟨#[97,98,99,100]⟩:ByteArray).extract t.1.toNat (⟨#[97,98,99,100]⟩:ByteArray).size).extract 0 1=x
    intro hx
    have e1:(out++x).size=out.size+x.size:=ByteArray.size_append
    have e2:(out++x++(⟨#[10]⟩:ByteArray)).size=(out++x).size+1:=ByteArray.size_append
    refine Evs.pos t0 (Evs.pos (by omega) (Evs.pos (by omega) (Evs.pos (by omega) (Evs.pos (by omega) (Evs.pos (by omega) ?_)))))
    rw [w64 (n:=((d+1:Nat):Int) - 1) (by omega) (by omega),show ((d+1:Nat):Int) - 1=(d:Int) from by omega,t2]
    exact (text_l0 b hb d _ (p+1) (by omega) (by omega) (by omega) (by omega)).mono (fun r hr=>⟨by omega,by omega⟩)
theorem text_evs (b:List Int) (hb:Code b) (p:Int) (h0:0≤p) (h1:p≤10000000):Evs (fun k=>spec_l1Text.f k b p) (TextAt p):=by
  unfold spec_l1Text.f
  refine Evs.bind (pick_evs b hb p 9 (by omega) (by omega) (by omega)) (fun t ht => ?_)
  obtain ⟨⟨t0,t1⟩,t2⟩:=ht
  refine Evs.ite (fun _=>Evs.ret ⟨by show (⟨#[]⟩:ByteArray).size≤12;decide,by show p≤t.2;omega,by show t.2≤_;omega⟩) (fun _=>Evs.ite (fun _=>Evs.ret ⟨by show (⟨#[255,0]⟩:ByteArray).size≤12;decide,by show p≤t.2;omega,by show t.2≤_;omega⟩) (fun _=>Evs.ite (fun _=>Evs.ret ⟨by show (⟨#[110,111,32,110,101,119,108,105,110,101]⟩:ByteArray).size≤12;decide,by show p≤t.2;omega,by show t.2≤_;omega⟩) (fun _ => ?_)))
  refine Evs.bind (pick_evs b hb t.2 7 (by omega) (by omega) (by omega)) (fun u hu => ?_)
  obtain ⟨⟨u0,u1⟩,u2⟩:=hu
  obtain ⟨m,hm⟩:∃ m:Nat,u.1=(m:Int):=⟨u.1.toNat,by omega⟩
  rw [hm]
  have hz:(⟨#[]⟩:ByteArray).size=0:=rfl
  exact (text_l0 b hb m ⟨#[]⟩ u.2 (by omega) (by omega) (by omega) (by omega)).mono (fun r hr=>⟨by omega,by omega,by omega⟩)

end Go.Proofs.YtkmfnmeilooogaaDoor.Pure


namespace Go.Proofs.YtkmfnmeilooogaaDoor.Pure
open Go Go.RowKit Go.Proofs.YtkmfnmeilooogaaDoor.P Go.Proofs.YtkmfnmeilooogaaDoorW.PrintWords Go.Proofs.YtkmfnmeilooogaaDoorW.PrintLast
set_option linter.unusedVariables false
set_option linter.unusedSimpArgs false

theorem dec_one (n:Int) (h1:n<10):Evs (fun k=>spec_l10Dec.f k n) (fun r=>r.size=1) :=
  Evs.step (fun k=>spec_l10Dec.f.eq_2 ..) (Evs.pos h1 (Evs.ret (by rw [son_size];rfl)))
theorem sz_app (a b:ByteArray):(a++b).size=a.size+b.size:=ByteArray.size_append
theorem edit_l0 (b : List Int) (hb : Code b) (L : List ByteArray) (hL : L.length ≤ 1500) (hz : ∀ i, (h : i < L.length) → L[i].size ≤ 1500) : ∀ (d i : Nat) (out : ByteArray) (p : Int), i + d = L.length + 1 → out.size ≤ i * 2000 → 0 ≤ p → p + 2 * d ≤ 20000000 →
    Evs (fun k=>spec_l7Edit.l0 k L out (i:Int) b p) (fun r=>p≤r.2∧r.2≤p+2*d)
  | 0,i,out,p,hd,ho,h0,h1=>Evs.step (fun k=>spec_l7Edit.l0.eq_2 ..) (Evs.neg (by omega) (Evs.ret ⟨by show p≤p;omega,by show p≤p+2*((0:Nat):Int);omega⟩))
  | d + 1, i, out, p, hd, ho, h0, h1 => by
    have next:∀ (out':ByteArray) (q:Int),out'.size≤(i+1)*2000→p≤q→q≤p+2→Evs (fun k=>spec_l7Edit.l0 k L out' (wrap64 ((i:Int)+1)) b q) (fun r=>p≤r.2∧r.2≤p+2*((d+1:Nat):Int)):=by
      intro out' q hs q1 q2
      rw [w64 (n:=(i:Int)+1) (by omega) (by omega),show (i:Int)+1=((i+1:Nat):Int) from by omega]
      exact (edit_l0 b hb L hL hz d (i+1) out' q (by omega) hs (by omega) (by omega)).mono (fun r hr=>⟨by omega,by omega⟩)
    have ho1:out.size≤(i+1)*2000:=Nat.le_trans ho (Nat.mul_le_mul_right _ (Nat.le_succ i))
    refine Evs.step (fun k=>spec_l7Edit.l0.eq_2 ..) (Evs.pos (by omega) (Evs.bind (pick_evs b hb p 7 (by omega) (by omega) (by omega)) (fun t ht => ?_)))
    obtain ⟨_,t2⟩:=ht
    refine Evs.ite (fun _ => ?_) (fun _=>Evs.ite (fun _=>next out t.2 ho1 (by omega) (by omega)) (fun _ => ?_))
    · refine Evs.pos (by omega) (Evs.bind (pick_evs b hb t.2 2 (by omega) (by omega) (by omega)) (fun u hu => ?_))
      obtain ⟨⟨u0,u1⟩,u2⟩:=hu
      refine Evs.bind (dec_one u.1 (by omega)) (fun x hx => ?_)
      have e1:(out++(⟨#[101]⟩:ByteArray)).size=out.size+1:=sz_app _ _
      have e2:(out++(⟨#[101]⟩:ByteArray)++x).size=out.size+1+x.size:=by rw [sz_app,e1]
      have e3:(out++(⟨#[101]⟩:ByteArray)++x++(⟨#[10]⟩:ByteArray)).size=out.size+1+x.size+1:=by rw [sz_app,e2];rfl
      refine Evs.pos (by omega) (Evs.pos (by omega) ?_)
      by_cases h:i<L.length
      · have hl := hz i h
        refine Evs.pos (by omega) (Evs.pos (by omega) ?_)
        rw [rd_eq _ h]
        refine Evs.pos (by omega) (next _ _ ?_ (by omega) (by omega))
        rw [sz_app,e3]
        omega
      · refine Evs.neg (by omega) (next _ _ ?_ (by omega) (by omega))
        rw [e3]
        omega
    · by_cases h : i < L.length
      · have hl := hz i h
        refine Evs.pos (by omega) (Evs.pos (by omega) ?_)
        rw [rd_eq _ h]
        refine Evs.pos (by omega) (next _ _ ?_ (by omega) (by omega))
        rw [sz_app]
        omega
      · exact Evs.neg (by omega) (next out t.2 ho1 (by omega) (by omega))
theorem edit_evs (b:List Int) (hb:Code b) (p:Int) (s:ByteArray) (hs:s.size≤1500) (h0:0≤p) (h1:p≤100000):Evs (fun k=>spec_l7Edit.f k b p s) (fun r=>p≤r.2∧r.2≤p+3002):=by
  unfold spec_l7Edit.f
  refine Evs.bind (Evs.of (spec_Lines_ev s) (Q:=fun t=>t=lines s) rfl) (fun t ht => ?_)
  subst ht
  have hl:=lines_le (s:=s)
  refine (edit_l0 b hb (lines s) hl (fun i h=>Nat.le_trans (elem_le _ i h) (okL_lines hs).2) ((lines s).length+1) 0 ⟨#[]⟩ p (by omega) (Nat.zero_le _) h0 (by omega)).mono (fun r hr=>⟨hr.1,by omega⟩)
theorem lm_size (t:Int) (h0:0≤t) (h1:t<6):1≤((⟨#[108,109,110,111,112,113]⟩:ByteArray).extract t.toNat (⟨#[108,109,110,111,112,113]⟩:ByteArray).size).size:=by
  rw [ByteArray.size_extract]
  have:(⟨#[108,109,110,111,112,113]⟩:ByteArray).size=6:=rfl
  omega
theorem dm_j3 (b:List Int) (hb:Code b) (x y z:ByteArray) (p:Int) (h0:0≤p) (h1:p≤1000000):Evs (fun k=>spec_DrawMergeText.j3 k x y z b p) (fun _=>True):=by
  refine Evs.step (fun k=>spec_DrawMergeText.j3.eq_2 ..) (Evs.bind (pick_evs b hb p 24 (by omega) (by omega) (by omega)) (fun t ht => ?_))
  obtain ⟨_,t2⟩:=ht
  refine Evs.ite (fun _ => ?_) (fun _=>Evs.ite (fun _ => ?_) (fun _=>Evs.ret trivial))
  · refine Evs.bind (pick_evs b hb t.2 2 (by omega) (by omega) (by omega)) (fun u hu => ?_)
    obtain ⟨⟨u0,u1⟩,_⟩:=hu
    rw [w64 (n:=1500+u.1) (by omega) (by omega)]
    exact Evs.bind (many_evs' (⟨#[98]⟩:ByteArray) (1500+u.1) (by decide) (by omega) (by omega)) (fun v _=>Evs.ret trivial)
  · refine Evs.bind (text_evs b hb t.2 (by omega) (by omega)) (fun u hu => ?_)
    obtain ⟨_,u1,u2⟩:=hu
    refine Evs.bind (text_evs b hb u.2 (by omega) (by omega)) (fun v hv => ?_)
    obtain ⟨_,v1,v2⟩:=hv
    exact Evs.bind (text_evs b hb v.2 (by omega) (by omega)) (fun q _=>Evs.ret trivial)
theorem dm_j2 (b:List Int) (hb:Code b) (x y z:ByteArray) (hx:x.size≤1500) (p:Int) (h0:0≤p) (h1:p≤50000):Evs (fun k=>spec_DrawMergeText.j2 k x y z b p) (fun _=>True):=by
  refine Evs.step (fun k=>spec_DrawMergeText.j2.eq_2 ..) (Evs.bind (pick_evs b hb p 5 (by omega) (by omega) (by omega)) (fun t ht => ?_))
  obtain ⟨_,t2⟩:=ht
  refine Evs.ite (fun _=>Evs.bind (edit_evs b hb t.2 x hx (by omega) (by omega)) (fun u hu => ?_)) (fun _=>dm_j3 b hb x y z t.2 (by omega) (by omega))
  obtain ⟨u1,u2⟩:=hu
  exact dm_j3 b hb x y u.1 u.2 (by omega) (by omega)
theorem dm_j1 (b:List Int) (hb:Code b) (x:ByteArray) (hx:x.size≤1500) (p:Int) (h0:0≤p) (h1:p≤10000):Evs (fun k=>spec_DrawMergeText.j1 k x b p) (fun _=>True):=by
  refine Evs.step (fun k=>spec_DrawMergeText.j1.eq_2 ..) (Evs.bind (pick_evs b hb p 5 (by omega) (by omega) (by omega)) (fun t ht => ?_))
  obtain ⟨_,t2⟩:=ht
  refine Evs.ite (fun _=>Evs.bind (edit_evs b hb t.2 x hx (by omega) (by omega)) (fun u hu => ?_)) (fun _=>dm_j2 b hb x x x hx t.2 (by omega) (by omega))
  obtain ⟨u1,u2⟩:=hu
  exact dm_j2 b hb x u.1 x hx u.2 (by omega) (by omega)
theorem dm_l0 (b:List Int) (hb:Code b):∀ (d:Nat) (out:ByteArray) (p:Int),out.size+2*d≤1000→0≤p→p+d≤1000→Evs (fun k=>spec_DrawMergeText.l0 k out (d:Int) b p) (fun _=>True)
  | 0, out, p, h1, h3, h4 => by
    refine Evs.step (fun k=>spec_DrawMergeText.l0.eq_2 ..) (Evs.neg (by omega) (Evs.bind (pick_evs b hb p 4 (by omega) (by omega) (by omega)) (fun t ht => ?_)))
    obtain ⟨_,t2⟩:=ht
    have e:(out++(⟨#[101,110,100]⟩:ByteArray)).size=out.size+3:=sz_app _ _
    exact Evs.ite (fun _=>Evs.pos (by omega) (dm_j1 b hb _ (by omega) t.2 (by omega) (by omega))) (fun _=>dm_j1 b hb _ (by omega) t.2 (by omega) (by omega))
  | d + 1, out, p, h1, h3, h4 => by
    refine Evs.step (fun k=>spec_DrawMergeText.l0.eq_2 ..) (Evs.pos (by omega) (Evs.bind (pick_evs b hb p 6 (by omega) (by omega) (by omega)) (fun t ht => ?_)))
    obtain ⟨⟨t0,t1⟩,t2⟩:=ht
    have hs:=lm_size t.1 t0 t1
    have hx:(((⟨#[108,109,110,111,112,113]⟩:ByteArray).extract t.1.toNat (⟨#[108,109,110,111,112,113]⟩:ByteArray).size).extract 0 1).size=1:=by
      rw [ByteArray.size_extract]
      omega
    revert hx
    generalize ((⟨#[108,109,110,111,112,113]⟩:ByteArray).extract t.1.toNat (⟨#[108,109,110,111,112,113]⟩:ByteArray).size).extract 0 1=x
    intro hx
    have e1:(out++x).size=out.size+x.size:=sz_app _ _
    have e2:(out++x++(⟨#[10]⟩:ByteArray)).size=(out++x).size+1:=sz_app _ _
    refine Evs.pos t0 (Evs.pos (by omega) (Evs.pos (by omega) (Evs.pos (by omega) (Evs.pos (by omega) (Evs.pos (by omega) ?_)))))
    rw [w64 (n:=((d+1:Nat):Int) - 1) (by omega) (by omega),show ((d+1:Nat):Int) - 1=(d:Int) from by omega,t2]
    exact dm_l0 b hb d _ (p+1) (by omega) (by omega) (by omega)
theorem drawMT_evs (l:List Int) (h:∀ x ∈ l,0≤x∧x≤255):Evs (fun k=>spec_DrawMergeText.f k l) (fun _=>True):=by
  unfold spec_DrawMergeText.f
  obtain ⟨b,hb,e⟩:=open_ev l h
  rw [e]
  refine Evs.sb (Evs.bind (pick_evs b hb 0 9 (by omega) (by omega) (by omega)) (fun t ht => ?_))
  obtain ⟨⟨t0,t1⟩,t2⟩:=ht
  obtain ⟨n,hn⟩:=Int.eq_ofNat_of_zero_le t0
  rw [show t.1=(n:Int) from hn]
  exact dm_l0 b hb n ⟨#[]⟩ t.2 (by show 0+2*n≤1000;omega) (by omega) (by omega)

end Go.Proofs.YtkmfnmeilooogaaDoor.Pure


namespace Go.Proofs.YtkmfnmeilooogaaDoor.Pure
open Go Go.RowKit Go.Proofs.YtkmfnmeilooogaaDoor.P Go.Proofs.YtkmfnmeilooogaaDoorW.PrintWords Go.Proofs.YtkmfnmeilooogaaDoorW.PrintLast
set_option linter.unusedVariables false
set_option linter.unusedSimpArgs false

theorem FnMergeText (l0:List Int) (_h0:l0.length*1≤140737488351232 ∧ ∀ x ∈ l0,(Lit.int .u8 x).wf=true):∃ k,laws_FnMergeText.f k l0=some true:=by
  suffices h:Evs (fun k=>laws_FnMergeText.f k l0) (fun r=>r=true) by
    obtain ⟨k,r,rfl,hk⟩:=h.rounds
    exact ⟨k,hk⟩
  unfold laws_FnMergeText.f
  refine Evs.ite (fun _=>Evs.ret rfl) (fun _=>Evs.bind (drawMT_evs l0 (bytes_of_wf _h0.2)) (fun x _ => ?_))
  obtain ⟨base,a,b⟩:=x
  have hi:∀ x y z,impl_MergeText.f x y z=some (mergeT x y z):=fun _ _ _=>rfl
  dsimp only
  rw [hi,hi,mergeT_comm base b a]
  refine Evs.sb (Evs.sb (Evs.bind (Evs.of (spec_MergeText_ev base a b) (Q:=fun t=>t=mergeT base a b) rfl) (fun t ht => ?_)))
  subst ht
  refine Evs.pos rfl (Evs.neg (by simp) (Evs.pos rfl ?_))
  rw [show ((mergeT base a b).2 != (mergeT base a b).2)=false from by simp]
  refine Evs.step (fun k=>laws_FnMergeText.j0.eq_2 ..) (Evs.neg (by simp) ?_)
  have big:base.size>1500∨a.size>1500∨b.size>1500→Evs (fun k=>laws_FnMergeText.j1 k base a b (mergeT base a b).2 true) (fun r=>r=true):=by
    intro h
    refine Evs.step (fun k=>laws_FnMergeText.j1.eq_2 ..) (Evs.pos rfl (Evs.ret ?_))
    unfold mergeT
    rw [if_pos h]
    rfl
  by_cases h0:(base.size:Int)>1500
  · exact Evs.pos h0 (big (by omega))
  refine Evs.neg h0 ?_
  by_cases h1:(a.size:Int)>1500
  · exact Evs.pos h1 (big (by omega))
  refine Evs.neg h1 ?_
  by_cases h2:(b.size:Int)>1500
  · rw [decide_eq_true h2]
    exact big (by omega)
  rw [decide_eq_false h2]
  refine Evs.step (fun k=>laws_FnMergeText.j1.eq_2 ..) (Evs.neg (by simp) ?_)
  rw [hi,hi,mergeT_left (by omega),mergeT_same (by omega)]
  refine Evs.sb (Evs.sb (Evs.pos rfl (Evs.pos rfl (Evs.pos rfl (Evs.ret ?_)))))
  simp

end Go.Proofs.YtkmfnmeilooogaaDoor.Pure

