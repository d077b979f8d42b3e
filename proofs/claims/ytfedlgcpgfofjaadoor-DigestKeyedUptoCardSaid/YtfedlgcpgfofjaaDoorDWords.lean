/-
  The reference's words: what the call does, walked.
-/
import Derived.Test.YtfedlgcpgfofjaaDoorDRef
import Derived.Test.YtfedlgcpgfofjaaDoorDOwn
namespace Go.Proofs.YtfedlgcpgfofjaaDoor.Sha
open Go.RowKit Go.Proofs.YtfedlgcpgfofjaaDoorW.PrintWords
set_option linter.unusedVariables false
theorem bytesW_at (x j : Nat) (h : j < 4) : (bytesW x)[j]? = some (x / 2 ^ (24 - 8 * j) % 256) := by
  match j, h with
  | 0, _ => rfl
  | 1, _ => rfl
  | 2, _ => rfl
  | 3, _ => simp [bytesW]
theorem bytesW_take (x j : Nat) (h : j < 4) : (bytesW x).take (j + 1) = (bytesW x).take j ++ [x / 2 ^ (24 - 8 * j) % 256] := by
  have h1 := bytesW_at x j h
  obtain ⟨hj, e⟩ := List.getElem?_eq_some_iff.1 h1
  rw [List.take_succ_eq_append_getElem hj, e]
theorem bytesR_take (r : List Nat) (k : Nat) (h : k < r.length) : bytesR (r.take (k + 1)) = bytesR (r.take k) ++ bytesW (r.getD k 0) := by
  unfold bytesR
  rw [List.take_succ_eq_append_getElem h, List.flatMap_append, List.getD_eq_getElem?_getD, List.getElem?_eq_getElem h]
  simp
theorem bytesR_len : ∀ r : List Nat, (bytesR r).length = 4 * r.length
  | [] => rfl
  | x :: r => by
    have := bytesR_len r
    unfold bytesR at this ⊢
    rw [List.flatMap_cons, List.length_append, this, List.length_cons]
    show 4 + _ = _
    omega
theorem bytesW_all (x : Nat) : All 256 (bytesW x) := by
  intro y hy
  simp only [bytesW, List.mem_cons, List.not_mem_nil, or_false] at hy
  rcases hy with h | h | h | h <;> rw [h] <;> exact Nat.mod_lt _ (by decide)
theorem bytesR_all (r : List Nat) : All 256 (bytesR r) := by
  intro y hy
  obtain ⟨x, _, h⟩ := List.mem_flatMap.1 hy
  exact bytesW_all x y h
set_option maxRecDepth 100000 in
set_option maxHeartbeats 400000 in
theorem rwords_any (r : List Nat) (w : World) (hr : r.length = 8) (hra : All 4294967296 r) :
    Calls Tryd.prog 60 #[.agg (c32 r)] w fun e w' => ∃ v, e = .returned v ∧ Own w' w.heap.size v (bytesR r) ∧ Below w.heap.size w w' := by
  have HR := Lib.hid hr
  clear hr
  go_enter Tryd.func60, Tryd.ntmps60
  go_wp2
  go_loopw [3, 4] (fun v i wr => ∃ k : Nat, k ≤ 8 ∧ i = .int .i64 (k : Int) ∧ Below w.heap.size w wr ∧ Blk wr w.heap.size 56 (c32 r) ∧ Own wr w.heap.size v (bytesR (r.take k))) (fun _ i _ => 8 - (intOf i).toNat)
  case atStart => exact ⟨0, by omega, rfl, (Below.refl _ _).alloc (Nat.le_refl _) _, Blk.new w 56 (c32 r), Own.nil _ _⟩
  case round =>
    obtain ⟨k, hk, rfl, hbel, B0, O⟩ := hrel
    by_cases hlt : k < 8
    · have dk : decide ((k : Int) < 8) = true := decide_eq_true (by omega)
      obtain ⟨x, ex, lx⟩ : ∃ x : Nat, x = r.getD k 0 ∧ x < 4294967296 := ⟨_, rfl, hra.getD (by decide) k⟩
      have EX := Lib.hid ex
      have ak : (0 : Int) ≤ (k : Int) := by omega
      have bk : (k : Int) < 8 := by omega
      clear ex
      go_wp2
      obtain ⟨wo, rfl⟩ : ∃ wo : World, wo = wr := ⟨_, rfl⟩
      go_loopw [3, 5] (fun v i wr => ∃ j : Nat, j ≤ 4 ∧ i = .int .i64 (j : Int) ∧ Below w.heap.size w wr ∧ Blk wr w.heap.size 56 (c32 r) ∧ Own wr w.heap.size v (bytesR (r.take k) ++ (bytesW x).take j)) (fun _ i _ => 4 - (intOf i).toNat)
      case atStart => exact ⟨0, by omega, rfl, hbel, B0, by rw [List.take_zero, List.append_nil]; exact O⟩
      case round =>
        clear hbel B0 O
        obtain ⟨j, hj4, rfl, hbel, B0, O⟩ := hrel
        by_cases hj : j < 4
        · have gx : wr.cell? ⟨w.heap.size, k, none⟩ = some (.int .u32 (x : Int)) := by rw [B0.w32 k (by rw [HR.out]; omega), EX.out]
          have dj : decide ((j : Int) < 4) = true := decide_eq_true (by omega)
          have bj : (j : Int) < 4 := by omega
          have hB0 := Lib.hid B0
          have hO := Lib.hid O
          have hl : (bytesR (r.take k) ++ (bytesW x).take j).length ≤ 36 := by
            rw [List.length_append, bytesR_len, List.length_take, List.length_take, HR.out, show (bytesW x).length = 4 from rfl]; omega
          have hs := hbel.size
          have hv : ((x : Int) / 2 ^ (24 - 8 * j) % 256) = ((x / 2 ^ (24 - 8 * j) % 256 : Nat) : Int) := by simp
          have HV := Lib.hid hv
          clear hv
          go_wp2_with (at_builtin; go_loud (refine wpl_append rfl _ _ _ rfl info_byte Tryd.underlying22 w.heap.size u3 _ rfl (hO.out.alloc _) _ _ _ [x / 2 ^ (24 - 8 * j) % 256] rfl rfl (C8.one_ _ _ _ HV.out _ rfl) (by rw [List.length_singleton]; omega) (by simp; omega) ?_); intro v' w1 O1 G1 _)
          go_roundw
          case rel =>
            refine ⟨j + 1, by omega, by go_num, (hbel.alloc hs _).grown G1 (by simp; omega) (fun k hk => (O.lt k hk).1), (hB0.out.alloc _).grown G1 (Own.ne hO.out hB0.out (by decide)), ?_⟩
            rw [bytesW_take x j hj, ← List.append_assoc]
            exact O1
          case measure => simp [intOf]; omega
        · have dj : decide ((j : Int) < 4) = false := decide_eq_false (by omega)
          go_wp2
          go_roundw
          case rel =>
            refine ⟨k + 1, by omega, by go_num, hbel, B0, ?_⟩
            rw [bytesR_take r k (by rw [HR.out]; omega), ← EX.out]
            rw [show j = 4 by omega] at O
            exact O
          case measure => simp [intOf]; omega
    · have dk : decide ((k : Int) < 8) = false := decide_eq_false (by omega)
      go_wp2
      go_ret
      refine ⟨_, rfl, ?_, hbel⟩
      rw [List.take_of_length_le (by rw [HR.out]; omega)] at O
      exact O
end Go.Proofs.YtfedlgcpgfofjaaDoor.Sha
