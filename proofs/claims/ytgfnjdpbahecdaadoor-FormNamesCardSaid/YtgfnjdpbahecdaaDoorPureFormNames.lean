/-
  THE PURE LAW of FormNames: the limits and errors have the document's numbers, and a body is read.
-/
import Derived.Test.YtgfnjdpbahecdaaDoorPure03a
import Derived.Test.YtgfnjdpbahecdaaDoorPAllx4
namespace Go.Proofs.YtgfnjdpbahecdaaDoor.Pure
open Go.RowKit Go.Proofs.YtgfnjdpbahecdaaDoorW.PrintWords Go.Proofs.YtgfnjdpbahecdaaDoor.Plain Go.Proofs.YtgfnjdpbahecdaaDoor.Spec Go.Proofs.YtgfnjdpbahecdaaDoor.PAll
theorem FormNames : ∃ k, wicketlaw03_FormNames.f k = some true := by
  refine Ev.rounds ?_
  unfold wicketlaw03_FormNames.f wicketlaw03_num.f
  simp only [Option.bind_some, if_true]
  exact Ev.bind live_ev (Ev.now true)
end Go.Proofs.YtgfnjdpbahecdaaDoor.Pure
