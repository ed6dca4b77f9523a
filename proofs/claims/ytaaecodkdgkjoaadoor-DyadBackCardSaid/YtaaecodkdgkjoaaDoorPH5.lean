/- Part of a claim: dyads: lifted, added. -/
import Derived.Test.YtaaecodkdgkjoaaDoorPH3
set_option linter.unusedSimpArgs false
set_option linter.unusedVariables false
set_option maxRecDepth 100000
set_option maxHeartbeats 10000000
namespace Go.Proofs.YtaaecodkdgkjoaaDoor.B
open Go Go.RowKit Go.Proofs.YtaaecodkdgkjoaaDoor.E

/-- A dyad. -/
structure Dy where
  a : Int
  b : Int
  e : Int
def Dy.av (p : Dy) : AV := dy p.a p.b p.e
def Dy.ok (p : Dy) : Prop := I64 p.a ∧ I64 p.b ∧ I64 p.e
def Dy.rt (p : Dy) : Prop := Rt p.a p.b p.e
instance (p : Dy) : Decidable p.rt := by unfold Dy.rt; infer_instance
end Go.Proofs.YtaaecodkdgkjoaaDoor.B
