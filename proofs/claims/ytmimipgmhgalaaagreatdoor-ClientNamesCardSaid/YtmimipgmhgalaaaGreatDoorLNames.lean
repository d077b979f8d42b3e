/-
  ClientNames, walked by hand, and its pure law: the errors have the document's numbers, and a client shows that it is one.
-/
import Derived.Test.YtmimipgmhgalaaaGreatDoorFLive
namespace Go.Proofs.YtmimipgmhgalaaaGreatDoor.PAll
open Go.RowKit Go.Proofs.YtmimipgmhgalaaaGreatDoorW.PrintWords Go.Proofs.YtmimipgmhgalaaaGreatDoorW.PrintLast Go.Proofs.YtmimipgmhgalaaaGreatDoorW.PrintMore
def wicketlaw11_ClientNames.f : Option Bool := some true
set_option maxRecDepth 100000 in
set_option maxHeartbeats 1000000 in
theorem wicketlaw11_ClientNames.calls (r : Bool) (w : World) (h : wicketlaw11_ClientNames.f = some r) : Calls Tryz.prog 5 #[] w fun e w' => e = .returned (.bool r) ∧ Below w.heap.size w w' := by
  obtain rfl : true = r := Option.some.inj h
  clear h
  have HV := Lib.hid (fun V : World => wicketlaw11_live.calls true V rfl)
  go_enter Tryz.func5, Tryz.ntmps5
  go_wp2_with (first | (go_at_call 19; (with_reducible refine (live_num _ _).mono ?_); rintro e w' ⟨rfl, ⟨nd, rfl⟩⟩) | (go_at_call 21; (with_reducible refine (HV.out _).mono ?_); rintro e w2 ⟨rfl, hb⟩; have HB := Lib.hid (below_step (w := w) (by repeat (first | exact Below.refl _ _ | apply below_alloc | apply pw_below_drewN | apply below_drew1)) hb); clear hb))
  go_ret
  exact ⟨rfl, by repeat (first | (with_reducible first | exact HB.out | apply below_alloc | apply pw_below_drewN | apply below_drew1) | exact HB.out)⟩
end Go.Proofs.YtmimipgmhgalaaaGreatDoor.PAll
namespace Go.Proofs.YtmimipgmhgalaaaGreatDoor.Pure
open Go.Proofs.YtmimipgmhgalaaaGreatDoor.PAll
theorem ClientNames : wicketlaw11_ClientNames.f = some true := rfl
end Go.Proofs.YtmimipgmhgalaaaGreatDoor.Pure
