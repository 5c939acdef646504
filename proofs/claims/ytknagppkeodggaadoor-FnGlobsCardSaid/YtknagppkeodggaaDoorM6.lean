/- Words of the kit's print, as print.sh wrote them for this claim's seat; what this claim does not use has been taken out. -/
/- The laws' own look whether two trees are the same. Conditions: sizes. -/
import Derived.Test.YtknagppkeodggaaDoorM4
import Derived.Test.YtknagppkeodggaaDoorM3
namespace Go.Proofs.YtknagppkeodggaaDoor.Pure
open Go Go.RowKit Go.Proofs.YtknagppkeodggaaDoor.P Go.Proofs.YtknagppkeodggaaDoorW.PrintWords Go.Proofs.YtknagppkeodggaaDoorW.PrintLast
set_option linter.unusedVariables false
set_option linter.unusedSimpArgs false

theorem wTree_l0 (l:List Entry) (hl:l.length≤1000000000):∀ (d i:Nat),i+d=l.length→Ev (fun k=>laws_wTree.l0 k (i:Int) l l) true
  | 0,i,hd=>Ev.step (fun k=>laws_wTree.l0.eq_2 ..) (Ev.neg (by omega) (Ev.now _))
  | d + 1, i, hd => by
    have ih:=wTree_l0 l hl d (i+1) (by omega)
    refine Ev.step (fun k=>laws_wTree.l0.eq_2 ..) (Ev.pos (by omega) (Ev.pos (by omega) (Ev.pos (by omega) (Ev.neg (by simp) ?_))))
    rw [w64 (n:=(i:Int)+1) (by omega) (by omega),show (i:Int)+1=((i+1:Nat):Int) from by omega]
    exact ih
theorem wTree_ev (l:List Entry) (hl:l.length≤1000000000):Ev (fun k=>laws_wTree.f k l l) true:=by
  unfold laws_wTree.f
  exact Ev.pos rfl (wTree_l0 l hl l.length 0 (by omega))
theorem wTree_evs (l:List Entry) (hl:l.length≤1000000000):Evs (fun k=>laws_wTree.f k l l) (fun r=>r=true):=Evs.of (wTree_ev l hl) rfl

end Go.Proofs.YtknagppkeodggaaDoor.Pure
