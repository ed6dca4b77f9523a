/- Part of a claim: the law DyadTexts. -/
import Derived.Test.YtaaecodkdgkjoaaDoorPT13
import Derived.Test.YtaaecodkdgkjoaaDoorPH4
set_option linter.unusedSimpArgs false
set_option linter.unusedVariables false
set_option maxRecDepth 100000
set_option maxHeartbeats 10000000
namespace Go.Proofs.YtaaecodkdgkjoaaDoor.B
open Go Go.RowKit Go.Proofs.YtaaecodkdgkjoaaDoor.E

theorem ReadQ.pos {s : List UInt8} {v : AV} (h : ReadQ s v) {a b : Int} {e : Nat} (hr : Rt a b e) (hs : s = wr a b e) : v = .tup [dy a b e, .int .i64 0] := by
  rcases h with ⟨a', b', e', h1, h2, h3⟩ | ⟨h1, _⟩
  · obtain ⟨rfl, rfl, rfl⟩ := wr_inj hr h1 (hs.symm.trans h2)
    exact h3
  · exact absurd ⟨a, b, e, hr, hs⟩ h1
theorem ReadQ.neg {s : List UInt8} {v : AV} (h : ReadQ s v) (hn : ¬ ∃ (a b : Int) (e : Nat), Rt a b e ∧ s = wr a b e) : v = .tup [dy 0 0 0, .int .i64 50] := by
  rcases h with ⟨a', b', e', h1, h2, h3⟩ | ⟨_, h1⟩
  · exact absurd ⟨a', b', e', h1, h2⟩ hn
  · exact h1
end Go.Proofs.YtaaecodkdgkjoaaDoor.B
