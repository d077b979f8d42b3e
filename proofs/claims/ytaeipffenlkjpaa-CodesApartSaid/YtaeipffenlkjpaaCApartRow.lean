/-
  CodesApart, as the row hands it on.
-/
import Derived.Test.YtaeipffenlkjpaaCApart
namespace Go.Proofs.Ytaeipffenlkjpaa.Sha
open Go.RowKit Go.Proofs.YtaeipffenlkjpaaW.PrintWords Go.Proofs.Ytaeipffenlkjpaa.PAll Go.Proofs.Ytaeipffenlkjpaa.Plain Go.Proofs.Ytaeipffenlkjpaa.Cod
set_option linter.unusedVariables false
theorem row_apart (a0 a1 : List Int) (o0 : a0.length * 1 ≤ 140737488351232 ∧ ∀ y, y ∈ a0 → (Lit.int .u8 y).wf = true) (o1 : a1.length * 1 ≤ 140737488351232 ∧ ∀ y, y ∈ a1 → (Lit.int .u8 y).wf = true) (W : World) (A0 : Option Addr) (c0 : Nat) (A1 : Option Addr) (c1 : Nat)
    (hr0 : Kd.C (Kd.int .u8) W A0 a0.length a0) (hc0 : a0.length ≤ c0) (hr1 : Kd.C (Kd.int .u8) W A1 a1.length a1) (hc1 : a1.length ≤ c1) :
    Calls Try.prog 7 #[.slice A0 a0.length c0, .slice A1 a1.length c1] W fun e w' => e = .returned (.bool true) ∧ Below W.heap.size W w' := by
  obtain ⟨g1, g2⟩ := bytes_of_ok o0.2
  obtain ⟨k1, k2⟩ := bytes_of_ok o1.2
  have h0 : C8 W A0 (toN a0).length (toN a0) := by show Kd.C _ _ _ _ _; rw [g1, toN_len]; exact hr0
  have h1 : C8 W A1 (toN a1).length (toN a1) := by show Kd.C _ _ _ _ _; rw [k1, toN_len]; exact hr1
  have l0 := (toN_len a0).symm; have l1 := (toN_len a1).symm
  have hA : a0.length < 24 ∨ (24 ≤ a0.length ∧ a0.length < 32) ∨ 32 ≤ a0.length := by omega
  have hB : a1.length < 24 ∨ (24 ≤ a1.length ∧ a1.length < 32) ∨ 32 ≤ a1.length := by omega
  rcases hA with ha | ha | ha <;> rcases hB with hb | hb | hb
  · exact apart_00 _ _ A0 _ c0 A1 _ c1 W l0 l1 g2 k2 hc0 hc1 h0 h1 ha hb
  · exact apart_01 _ _ A0 _ c0 A1 _ c1 W l0 l1 g2 k2 hc0 hc1 h0 h1 ha hb
  · exact apart_02 _ _ A0 _ c0 A1 _ c1 W l0 l1 g2 k2 hc0 hc1 h0 h1 ha hb
  · exact apart_10 _ _ A0 _ c0 A1 _ c1 W l0 l1 g2 k2 hc0 hc1 h0 h1 ha hb
  · exact apart_11 _ _ A0 _ c0 A1 _ c1 W l0 l1 g2 k2 hc0 hc1 h0 h1 ha hb
  · exact apart_12 _ _ A0 _ c0 A1 _ c1 W l0 l1 g2 k2 hc0 hc1 h0 h1 ha hb
  · exact apart_20 _ _ A0 _ c0 A1 _ c1 W l0 l1 g2 k2 hc0 hc1 h0 h1 ha hb
  · exact apart_21 _ _ A0 _ c0 A1 _ c1 W l0 l1 g2 k2 hc0 hc1 h0 h1 ha hb
  · exact apart_22 _ _ A0 _ c0 A1 _ c1 W l0 l1 g2 k2 hc0 hc1 h0 h1 ha hb
end Go.Proofs.Ytaeipffenlkjpaa.Sha
