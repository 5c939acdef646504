/- The sizes of what a reading of a struct gives. -/
import Derived.Test.YtkdghhkpmkfjhaaDoorP0
namespace Go.Proofs.YtkdghhkpmkfjhaaDoor.Pure
open Go Go.Proofs.YtkdghhkpmkfjhaaDoor.P
/-- The sizes of what a reading at type 62 gives. -/
def Small62 (x : S62) : Prop := (x.f0.size ≤ 140737488351232) ∧ ((x.f1.size ≤ 140737488351232) ∧ (True))
/-- The sizes of what a reading at type 95 gives. -/
def Small95 (x : S95) : Prop := (True) ∧ ((x.f1.size ≤ 140737488351232) ∧ (True))
/-- The sizes of what a reading at type 97 gives. -/
def Small97 (x : S97) : Prop := (x.f0.size ≤ 140737488351232) ∧ ((Small95 x.f1) ∧ (Small95 x.f2))
end Go.Proofs.YtkdghhkpmkfjhaaDoor.Pure
