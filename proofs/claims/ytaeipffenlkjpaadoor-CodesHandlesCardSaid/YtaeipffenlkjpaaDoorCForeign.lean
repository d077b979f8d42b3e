/-
  isCode and IndexByte, as the printed callers take them.
-/
import Derived.Test.YtaeipffenlkjpaaDoorCIsCode
namespace Go.Proofs.YtaeipffenlkjpaaDoor.PAll
open Go.RowKit Go.Proofs.YtaeipffenlkjpaaDoorW.PrintWords
set_option linter.unusedVariables false
set_option linter.unusedSimpArgs false
def codes_isCode.f (a0 : ByteArray) : Option Bool := some (Cod.isCode (Sha.sN a0))
theorem codes_isCode.calls (a0 : ByteArray) (r1 : Bool) (w : World) (h : codes_isCode.f a0 = some r1) :
    Calls Tryd.prog 27 #[.string a0] w fun e w' => e = .returned (.bool r1) ∧ Below w.heap.size w w' := by
  obtain rfl := Option.some.inj h
  exact Sha.isCode_any a0 w
def strings_IndexByte.f (a0 : ByteArray) (a1 : Int) : Option Int := some (Lib.indexByte a0.data.toList a1.toNat.toUInt8)
theorem strings_IndexByte.calls (a0 : ByteArray) (a1 r1 : Int) (w : World) (h : strings_IndexByte.f a0 a1 = some r1) :
    Calls Tryd.prog 26 #[.string a0, .int .u8 a1] w fun e w' => e = .returned (.int .i64 r1) ∧ Below w.heap.size w w' := by
  obtain rfl := Option.some.inj h
  exact (Tryd.strings_IndexByte a0 a1 w).mono fun e w' ⟨he, hw⟩ => ⟨he, hw ▸ Below.refl _ _⟩
end Go.Proofs.YtaeipffenlkjpaaDoor.PAll
