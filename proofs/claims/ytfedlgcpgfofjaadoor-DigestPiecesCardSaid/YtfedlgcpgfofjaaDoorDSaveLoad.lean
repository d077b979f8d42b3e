/-
  What Save writes Load reads.
-/
import Derived.Test.YtfedlgcpgfofjaaDoorDLoad
namespace Go.Proofs.YtfedlgcpgfofjaaDoor.Sha
open Go.RowKit Go.Proofs.YtfedlgcpgfofjaaDoorW.PrintWords
set_option linter.unusedVariables false
theorem wordsOf_bytesR (R t : List Nat) (hR : R.length = 8) (hRa : All 4294967296 R) : wordsOf (bytesR R ++ t) = R := by
  obtain ⟨r0, r1, r2, r3, r4, r5, r6, r7, rfl⟩ := eight_of R hR
  have h0 : r0 < 4294967296 := hRa r0 (by simp)
  have h1 : r1 < 4294967296 := hRa r1 (by simp)
  have h2 : r2 < 4294967296 := hRa r2 (by simp)
  have h3 : r3 < 4294967296 := hRa r3 (by simp)
  have h4 : r4 < 4294967296 := hRa r4 (by simp)
  have h5 : r5 < 4294967296 := hRa r5 (by simp)
  have h6 : r6 < 4294967296 := hRa r6 (by simp)
  have h7 : r7 < 4294967296 := hRa r7 (by simp)
  have hw : ∀ r, r < 4294967296 → ((r / 16777216 % 256 * 256 + r / 65536 % 256) * 256 + r / 256 % 256) * 256 + r % 256 = r := fun r h => by omega
  show [_, _, _, _, _, _, _, _] = [r0, r1, r2, r3, r4, r5, r6, r7]
  simp only [List.cons.injEq, and_true]
  exact ⟨hw r0 h0, hw r1 h1, hw r2 h2, hw r3 h3, hw r4 h4, hw r5 h5, hw r6 h6, hw r7 h7⟩
theorem num8_eight (n : Nat) (h : n < 18446744073709551616) : num8 (eight n) = n := by
  show (((((((0 * 256 + n / 2 ^ 56 % 256) * 256 + n / 2 ^ 48 % 256) * 256 + n / 2 ^ 40 % 256) * 256 + n / 2 ^ 32 % 256) * 256 + n / 2 ^ 24 % 256) * 256 + n / 2 ^ 16 % 256) * 256 + n / 2 ^ 8 % 256) * 256 + n / 2 ^ 0 % 256 = n
  omega
theorem save_parts (r : List Nat) (past : Nat) (all : List Nat) (hr : r.length = 8) (hra : All 4294967296 r) (hmax : past + all.length < 18446744073709551616) :
    wordsOf (saveOf r past all) = regOf r all ∧ restOf (saveOf r past all) = tailOf all ++ List.replicate (64 - all.length % 64) 0 ∧ numOf (saveOf r past all) = past + all.length := by
  have hl : (bytesR (regOf r all)).length = 32 := by rw [bytesR_len, regOf_len hr]
  have ht : (tailOf all ++ List.replicate (64 - all.length % 64) 0).length = 64 := by rw [List.length_append, tailOf_len, List.length_replicate]; omega
  refine ⟨?_, ?_, ?_⟩
  · unfold saveOf
    rw [List.append_assoc]
    exact wordsOf_bytesR _ _ (regOf_len hr all) (regOf_all hra all)
  · unfold saveOf restOf
    rw [List.append_assoc, List.drop_left' hl, List.take_left' ht]
  · unfold saveOf numOf
    rw [List.drop_left' (by rw [List.length_append, hl, ht]), num8_eight _ hmax]
theorem save_loads (all : List Nat) (hmax : all.length ≤ 1152921504606846976) : loadErr (saveOf first 0 all) = 0 := by
  obtain ⟨h1, h2, h3⟩ := save_parts first 0 all first_len first_all (by omega)
  have hl := saveOf_len first 0 all first_len
  unfold loadErr
  rw [if_neg (by omega), if_neg (by omega), h3, if_neg (by omega), h2, h1, Nat.zero_add, if_pos, if_neg]
  · rintro ⟨h, hne⟩
    apply hne
    unfold regOf
    rw [show all.length / 64 = 0 by omega]
    rfl
  · rw [List.drop_left' (by rw [tailOf_len])]
    exact List.all_eq_true.2 fun x hx => by rw [List.eq_of_mem_replicate hx]; rfl
theorem save_hash (w : World) (g : Nat) (all : List Nat) (hall : All 256 all) (hmax : all.length ≤ 1152921504606846976) (h : Blk w g 76 (hcells (wordsOf (saveOf first 0 all)) (restOf (saveOf first 0 all)) (numOf (saveOf first 0 all))).toArray) : HashAt w g first 0 all := by
  obtain ⟨h1, h2, h3⟩ := save_parts first 0 all first_len first_all (by omega)
  rw [h1, h2, h3] at h
  refine ⟨_, h, by rw [List.length_append, tailOf_len, List.length_replicate]; omega, (tailOf_all hall).app (All.rep (by decide) _), ?_⟩
  rw [List.take_left' (by rw [tailOf_len])]
end Go.Proofs.YtfedlgcpgfofjaaDoor.Sha
