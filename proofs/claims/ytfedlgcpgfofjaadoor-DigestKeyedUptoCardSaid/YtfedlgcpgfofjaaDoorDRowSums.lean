/-
  DigestSums over integers that are bytes, as the row hands them on.
-/
import Derived.Test.YtfedlgcpgfofjaaDoorDLawSums
import Derived.Test.YtfedlgcpgfofjaaDoorDTabs
namespace Go.Proofs.YtfedlgcpgfofjaaDoor.Sha
open Go.RowKit Go.Proofs.YtfedlgcpgfofjaaDoorW.PrintWords
set_option linter.unusedVariables false
theorem byte_of_wf {y : Int} (h : (Lit.int .u8 y).wf = true) : 0 ≤ y ∧ y < 256 := by
  simp [Lit.wf, IntKind.min, IntKind.max, IntKind.bits, IntKind.signed] at h
  omega
theorem bytes_of_ok {l : List Int} (h : ∀ y, y ∈ l → (Lit.int .u8 y).wf = true) : toI (toN l) = l ∧ All 256 (toN l) :=
  ⟨toI_toN fun x hx => (byte_of_wf (h x hx)).1, toN_all fun x hx => (byte_of_wf (h x hx)).2⟩
theorem toN_len (l : List Int) : (toN l).length = l.length := List.length_map _
theorem sum_ones (l : List Int) : (l.map fun _ => 1).sum = l.length := by
  induction l with
  | nil => rfl
  | cons x l ih => simp [ih]; omega
theorem row_sums (a0 : List Int) (o0 : a0.length * 1 ≤ 140737488351232 ∧ ∀ y, y ∈ a0 → (Lit.int .u8 y).wf = true) (hb : ((a0.map fun y => 1).sum + 1) ≤ 1048576) (W : World) (A0 : Option Addr) (c0 : Nat)
    (hr : Kd.C (Kd.int .u8) W A0 a0.length a0) (hc : a0.length ≤ c0) (hT : Tabs W) :
    Calls Tryd.prog 3 #[.slice A0 a0.length c0] W fun e w' => e = .returned (.bool true) ∧ Below W.heap.size W w' := by
  obtain ⟨h1, h2⟩ := bytes_of_ok o0.2
  rw [sum_ones] at hb
  have hl := toN_len a0
  have h := law_sums (toN a0) A0 c0 W (by omega) (by omega) h2 (by show Kd.C _ _ _ _ _; rw [h1, hl]; exact hr) hT
  rw [hl] at h
  exact h
end Go.Proofs.YtfedlgcpgfofjaaDoor.Sha
