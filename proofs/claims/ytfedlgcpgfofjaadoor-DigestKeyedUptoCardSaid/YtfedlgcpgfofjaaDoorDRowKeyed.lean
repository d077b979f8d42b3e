/-
  DigestKeyed over integers that are bytes, as the row hands them on.
-/
import Derived.Test.YtfedlgcpgfofjaaDoorDKeyed
import Derived.Test.YtfedlgcpgfofjaaDoorDRowSums
namespace Go.Proofs.YtfedlgcpgfofjaaDoor.Sha
open Go.RowKit Go.Proofs.YtfedlgcpgfofjaaDoorW.PrintWords
set_option linter.unusedVariables false
theorem parts_of_ok {a : List (List Int)} (o : ∀ y, y ∈ a → y.length * 1 ≤ 140737488351232 ∧ ∀ z, z ∈ y → (Lit.int .u8 z).wf = true) : (a.map toN).map toI = a ∧ ∀ p ∈ a.map toN, All 256 p := by
  refine ⟨?_, fun p hp => ?_⟩
  · rw [List.map_map]
    conv => rhs; rw [← List.map_id a]
    exact List.map_congr_left fun x hx => (bytes_of_ok (o x hx).2).1
  · obtain ⟨x, hx, rfl⟩ := List.mem_map.1 hp
    exact (bytes_of_ok (o x hx).2).2
theorem join_small (a : List (List Int)) : (joinOf (a.map toN)).length ≤ 8 * (a.map fun y => ((y.map fun y => 1).sum + 1)).sum := by
  induction a with
  | nil => simp [joinOf]
  | cons p a ih =>
    have e : joinOf ((p :: a).map toN) = (eight (toN p).length ++ toN p) ++ joinOf (a.map toN) := rfl
    have h1 := sum_ones p
    rw [e, List.map_cons, List.sum_cons, List.length_append, List.length_append, eight_len, toN_len]
    omega
theorem row_keyed (a0 : List Int) (a1 : List (List Int)) (o0 : a0.length * 1 ≤ 140737488351232 ∧ ∀ y, y ∈ a0 → (Lit.int .u8 y).wf = true) (o1 : a1.length * 24 ≤ 140737488351232 ∧ ∀ y, y ∈ a1 → y.length * 1 ≤ 140737488351232 ∧ ∀ z, z ∈ y → (Lit.int .u8 z).wf = true)
    (hb : ((a0.map fun y => 1).sum + 1) + ((a1.map fun y => ((y.map fun y => 1).sum + 1)).sum + 1) ≤ 1048576) (W : World) (A0 : Option Addr) (c0 : Nat) (A1 : Option Addr) (c1 : Nat)
    (hr0 : Kd.C (Kd.int .u8) W A0 a0.length a0) (hc0 : a0.length ≤ c0) (hr1 : Kd.C (Kd.slice 5 (Kd.int .u8)) W A1 a1.length a1) (hc1 : a1.length ≤ c1) (hT : TabsP W) :
    Calls Tryd.prog 5 #[.slice A0 a0.length c0, .slice A1 a1.length c1] W fun e w' => e = .returned (.bool true) ∧ Below W.heap.size W w' := by
  obtain ⟨h1, h2⟩ := bytes_of_ok o0.2
  obtain ⟨h3, h4⟩ := parts_of_ok o1.2
  rw [sum_ones] at hb
  have hl := toN_len a0
  have hj := join_small a1
  exact law_keyed (toN a0) (a1.map toN) A0 a0.length c0 A1 a1.length c1 W hl.symm (by omega) hc0 h2 (by show Kd.C _ _ _ _ _; rw [h1, hl]; exact hr0) (by rw [List.length_map]) (by omega) h4 (by show Kd.C _ _ _ _ _; rw [h3]; exact hr1) hT
end Go.Proofs.YtfedlgcpgfofjaaDoor.Sha
