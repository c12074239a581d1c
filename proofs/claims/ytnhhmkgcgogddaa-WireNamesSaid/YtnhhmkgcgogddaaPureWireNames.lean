/- The names' numbers of the wire layer are what the chapter says: the closed law WireNames answers true. No condition. -/
import Derived.Test.YtnhhmkgcgogddaaPWireNamesx1
namespace Go.Proofs.Ytnhhmkgcgogddaa.Pure
open Go.RowKit Go.Proofs.Ytnhhmkgcgogddaa.PWireNames Go.Proofs.YtnhhmkgcgogddaaW.PrintWords Go.Proofs.YtnhhmkgcgogddaaW.PrintLast

/-- YOURS: cairnlaw1_WireNames.f  = some true
What it reaches (each with k first where it has rounds; `.mono`: more rounds tell the same; `.l0`, ..: its loops, with `.mono_l`): cairnlaw1_WireNames.f -/
theorem WireNames : cairnlaw1_WireNames.Pure := by
  rfl

end Go.Proofs.Ytnhhmkgcgogddaa.Pure
