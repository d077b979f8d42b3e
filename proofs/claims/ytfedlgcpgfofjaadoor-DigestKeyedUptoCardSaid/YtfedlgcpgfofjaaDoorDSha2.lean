/-
  Blocks of bytes that come in pieces: plain laws.
-/
import Derived.Test.YtfedlgcpgfofjaaDoorDTotal
namespace Go.Proofs.YtfedlgcpgfofjaaDoor.Sha
set_option linter.unusedVariables false
theorem blocks_pre (r a b : List Nat) : ∀ n, 64 * n ≤ a.length → blocks r (a ++ b) n = blocks r a n
  | 0, _ => rfl
  | n + 1, h => by
    rw [blocks, blocks, blocks_pre r a b n (by omega), List.drop_append_of_le_length (by omega), List.take_append_of_le_length (by rw [List.length_drop]; omega)]
/-- What lies behind the whole blocks. -/
def tailOf (a : List Nat) : List Nat := a.drop (64 * (a.length / 64))
theorem tailOf_len (a : List Nat) : (tailOf a).length = a.length % 64 := by unfold tailOf; rw [List.length_drop]; omega
/-- The register behind the whole blocks. -/
def regOf (r a : List Nat) : List Nat := blocks r a (a.length / 64)
theorem regOf_len {r : List Nat} (h : r.length = 8) (a : List Nat) : (regOf r a).length = 8 := blocks_len h _ _
theorem regOf_all {r : List Nat} (h : All 4294967296 r) (a : List Nat) : All 4294967296 (regOf r a) := blocks_all h _ _
theorem regOf_less (r a q : List Nat) (h : a.length % 64 + q.length < 64) : regOf r (a ++ q) = regOf r a := by
  unfold regOf
  rw [List.length_append, show (a.length + q.length) / 64 = a.length / 64 by omega, blocks_pre _ _ _ _ (by omega)]
theorem regOf_full (r a q : List Nat) (h : a.length % 64 + q.length = 64) : regOf r (a ++ q) = turn (regOf r a) (tailOf a ++ q) := by
  unfold regOf tailOf
  rw [List.length_append, show (a.length + q.length) / 64 = a.length / 64 + 1 by omega, blocks, blocks_pre _ _ _ _ (by omega), List.drop_append_of_le_length (by omega), List.take_of_length_le (by rw [List.length_append, List.length_drop]; omega)]
theorem tailOf_less (a q : List Nat) (h : a.length % 64 + q.length < 64) : tailOf (a ++ q) = tailOf a ++ q := by
  unfold tailOf
  rw [List.length_append, show (a.length + q.length) / 64 = a.length / 64 by omega, List.drop_append_of_le_length (by omega)]
theorem tailOf_full (a q : List Nat) (h : a.length % 64 + q.length = 64) : tailOf (a ++ q) = [] := by
  unfold tailOf
  rw [List.length_append, show (a.length + q.length) / 64 = a.length / 64 + 1 by omega]
  exact List.drop_eq_nil_of_le (by rw [List.length_append]; omega)
theorem tailOf_zero (a : List Nat) (h : a.length % 64 = 0) : tailOf a = [] := List.eq_nil_of_length_eq_zero (by rw [tailOf_len, h])
theorem tailOf_all {a : List Nat} (h : All 256 a) : All 256 (tailOf a) := h.drop _
theorem eight_of (l : List Nat) (h : l.length = 8) : ∃ a b c d e f g k : Nat, l = [a, b, c, d, e, f, g, k] := by
  match l, h with
  | [a, b, c, d, e, f, g, k], _ => exact ⟨a, b, c, d, e, f, g, k, rfl⟩
end Go.Proofs.YtfedlgcpgfofjaaDoor.Sha
