-- Printed by myprint.py, this session's own wrapper over the kit's print, out of the translation. Lean checks it.
import Derived.Test.YtmimipgmhgalaaaGreatDoorPAllx0
namespace Go.Proofs.YtmimipgmhgalaaaGreatDoor.PAll
open Go.RowKit Go.Proofs.YtmimipgmhgalaaaGreatDoorW.PrintWords Go.Proofs.YtmimipgmhgalaaaGreatDoorW.PrintLast Go.Proofs.YtmimipgmhgalaaaGreatDoorW.PrintMore
attribute [local go_sem] max2_int min2_int max_two min_two max_three min_three max_four min_four   -- for this text's walks alone
set_option linter.unusedVariables false
set_option linter.unusedSimpArgs false

/-! ### wicketlaw11_num: function 19 -/
def wicketlaw11_num.f (a0 : Int) : Option (Int) := some a0
set_option maxHeartbeats 8000000 in
set_option maxRecDepth 100000 in
theorem wicketlaw11_num.calls (a0 : Int) (r : Int) (w : World) (h : wicketlaw11_num.f a0 = some r) :
    Calls Tryz.prog 19 #[.int .i64 a0] w fun e w' => e = .returned (.int .i64 r) ∧ Drawn0 w w' := by
  have H : (some a0) = some r := h
  clear h
  obtain rfl := Option.some.inj H
  go_enter Tryz.func19, Tryz.ntmps19
  go_wp2
  go_ret
  exact ⟨by first | rfl | (simp; done) | (simp [*]; done) | (simp; (generalize ByteArray.toList _ = z_); cases z_ <;> rfl), by repeat (first | exact Drawn0.refl _ | apply Drawn0.step)⟩

-- FOREIGN: function 21 (wicketlaw11_live)

end Go.Proofs.YtmimipgmhgalaaaGreatDoor.PAll
