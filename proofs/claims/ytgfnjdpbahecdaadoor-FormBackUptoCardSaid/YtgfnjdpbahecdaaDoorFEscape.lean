/-
  urlform.Escape: what the call does, walked.
-/
import Derived.Test.YtgfnjdpbahecdaaDoorFBuilder
import Derived.Test.YtgfnjdpbahecdaaDoorSpec03
import Derived.Test.YtgfnjdpbahecdaaDoorWWords
import Derived.Lib.Hide
import Derived.Outline
namespace Go.Proofs.YtgfnjdpbahecdaaDoor.PAll
open Go.RowKit Go.Proofs.YtgfnjdpbahecdaaDoor.Spec Go.Proofs.YtgfnjdpbahecdaaDoorW.PrintWords
def urlform_Escape.f (a0 : ByteArray) : Option ByteArray := if 3 * a0.size ≤ 140737488355328 then some ⟨(escL a0.data.toList).toArray⟩ else none

theorem esc_alnum (c : UInt8) (r : Bool) (h : alnumB c = r) (w : World) :
    Calls Tryd.prog 41 #[.int .u8 (c.toNat : Int)] w fun e w' => e = .returned (.bool r) ∧ w = w' := by
  rw [alnum_int] at h
  go_enter Tryd.func41, Tryd.ntmps41
  subst h
  by_cases h1 : 65 ≤ (c.toNat : Int) <;> by_cases h2 : (c.toNat : Int) ≤ 90 <;> by_cases h3 : 97 ≤ (c.toNat : Int) <;> by_cases h4 : (c.toNat : Int) ≤ 122 <;> by_cases h5 : 48 ≤ (c.toNat : Int) <;> by_cases h6 : (c.toNat : Int) ≤ 57
  all_goals first | omega | skip
  all_goals go_wp2
  all_goals go_ret
  all_goals exact ⟨by simp [h1, h2, h3, h4, h5, h6], rfl⟩

set_option maxHeartbeats 4000000 in
set_option maxRecDepth 100000 in
theorem urlform_Escape.calls (a0 : ByteArray) (r : ByteArray) (w : World) (h : urlform_Escape.f a0 = some r) :
    Calls Tryd.prog 26 #[.string a0] w fun e w' => e = .returned (.string r) ∧ Below w.heap.size w w' := by
  unfold urlform_Escape.f at h
  split at h
  · rename_i hs
    injection h with h
    subst h
    go_enter Tryd.func26, Tryd.ntmps26
    go_wp2
    go_loopw [8] (fun v8 wr => ∃ k : Nat, k ≤ a0.size ∧ v8 = .int .i64 k ∧ Lib.IsBuilder 72 5 w.heap.size w.heap.size (Lib.byteCells (escL (a0.data.toList.take k))) wr ∧ Below w.heap.size w wr) (fun v8 _ => a0.size - (intOf v8).toNat)
    case atStart => exact ⟨0, Nat.zero_le _, rfl, Lib.fresh_isBuilder _ 5 w, (Below.refl _ w).alloc (Nat.le_refl _) _⟩
    case round =>
      obtain ⟨k, hk, rfl, hI, hB⟩ := hrel
      have hsz := hB.size
      have hlen : (Lib.byteCells (escL (a0.data.toList.take k))).length ≤ 3 * k := by
        rw [Lib.byteCells_length]
        exact Nat.le_trans (escL_len _) (Nat.mul_le_mul_left _ (List.length_take_le _ _))
      by_cases hlt : k < a0.size
      · have hst := Lib.hid (escL_take a0 k hlt)
        go_wp2_with fail
        · -- a blank
          have ht : ((a0[k].toNat : Int) == 32) = true := by assumption
          refine (Bld.writeByte w.heap.size w.heap.size _ 43 _ hI (by omega) (by omega)).mono ?_
          rintro e w1 ⟨rfl, h1, hb1, _⟩
          go_wp2
          go_roundw
          case rel =>
            refine ⟨k + 1, by omega, by go_num, ?_, hB.trans hb1⟩
            rw [hst.out, Lib.byteCells_append, escB_space _ ht]
            exact h1
          case measure => simp [intOf]; omega
        iterate 4
          · -- a mark that stays
            have h0 : ((a0[k].toNat : Int) == 32) = false := by assumption
            have hp : plainB a0[k] = true := by
              unfold plainB
              rw [punct_int]
              simp [*]
            refine (Bld.writeByte w.heap.size w.heap.size _ _ _ hI (by omega) (by omega)).mono ?_
            rintro e w1 ⟨rfl, h1, hb1, _⟩
            go_wp2
            go_roundw
            case rel =>
              refine ⟨k + 1, by omega, by go_num, ?_, hB.trans hb1⟩
              rw [hst.out, Lib.byteCells_append, escB_keep _ h0 hp]
              exact h1
            case measure => simp [intOf]; omega
        · have h0 : ((a0[k].toNat : Int) == 32) = false := by assumption
          have hpu : punctB a0[k] = false := by
            rw [punct_int]
            simp [*]
          have HPU := Lib.hid hpu
          clear hpu
          obtain ⟨b, hb⟩ : ∃ b, alnumB a0[k] = b := ⟨_, rfl⟩
          have HB := Lib.hid hb
          clear hb
          cases b
          · refine (esc_alnum _ false HB.out _).mono ?_
            rintro e w1 ⟨rfl, rfl⟩
            go_wp2_with fail
            refine (Bld.writeByte w.heap.size w.heap.size _ _ _ hI (by omega) (by omega)).mono ?_
            rintro e w1 ⟨rfl, h1, hb1, _⟩
            have hs1 := hb1.size
            have q0 : 0 ≤ (a0[k].toNat : Int) / 16 := by omega
            have q1 : (a0[k].toNat : Int) / 16 < 16 := by have := a0[k].toNat_lt; omega
            go_wp2_with fail
            refine (Bld.writeByte w.heap.size w.heap.size _ _ _ h1 (by simp; omega) (by omega)).mono ?_
            rintro e w2 ⟨rfl, h2, hb2, _⟩
            have hs2 := hb2.size
            have q2 : 0 ≤ (a0[k].toNat : Int) % 16 := by omega
            have q3 : (a0[k].toNat : Int) % 16 < 16 := by omega
            go_wp2_with fail
            refine (Bld.writeByte w.heap.size w.heap.size _ _ _ h2 (by simp; omega) (by omega)).mono ?_
            rintro e w3 ⟨rfl, h3, hb3, _⟩
            go_wp2
            go_roundw
            case rel =>
              refine ⟨k + 1, by omega, by go_num, ?_, ((hB.trans hb1).trans hb2).trans hb3⟩
              rw [hst.out, Lib.byteCells_append, escB_pct _ h0 (by unfold plainB; rw [HB.out, HPU.out]; rfl)]
              rw [hexD_at, hexD_at] at h3
              simpa [Lib.byteCells] using h3
            case measure => simp [intOf]; omega
          · refine (esc_alnum _ true HB.out _).mono ?_
            rintro e w1 ⟨rfl, rfl⟩
            go_wp2_with fail
            refine (Bld.writeByte w.heap.size w.heap.size _ _ _ hI (by omega) (by omega)).mono ?_
            rintro e w1 ⟨rfl, h1, hb1, _⟩
            go_wp2
            go_roundw
            case rel =>
              refine ⟨k + 1, by omega, by go_num, ?_, hB.trans hb1⟩
              rw [hst.out, Lib.byteCells_append, escB_keep _ h0 (by unfold plainB; rw [HB.out, Bool.or_true])]
              exact h1
            case measure => simp [intOf]; omega
      · have hge : decide (k < a0.size) = false := decide_eq_false hlt
        go_wp2_with fail
        refine (Tryd.Builder_String_any w.heap.size w.heap.size _ _ hI (by omega)).mono ?_
        rintro e w1 ⟨rfl, hb1⟩
        go_wp2
        go_ret
        refine ⟨?_, hB.trans hb1⟩
        rw [List.take_of_length_le (by simp; omega)]
        rfl
  · cases h
end Go.Proofs.YtgfnjdpbahecdaaDoor.PAll
