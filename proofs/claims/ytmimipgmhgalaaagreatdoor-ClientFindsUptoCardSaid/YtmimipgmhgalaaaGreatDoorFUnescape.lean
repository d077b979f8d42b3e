/-
  urlform.Unescape: what the call does, walked.
-/
import Derived.Test.YtmimipgmhgalaaaGreatDoorFBuilder
import Derived.Test.YtmimipgmhgalaaaGreatDoorSpec03
import Derived.Test.YtmimipgmhgalaaaGreatDoorWWords
import Derived.Lib.Hide
import Derived.Deep.RegionWith
import Derived.Outline
namespace Go.Proofs.YtmimipgmhgalaaaGreatDoor.PAll
open Go.RowKit Go.Proofs.YtmimipgmhgalaaaGreatDoor.Spec Go.Proofs.YtmimipgmhgalaaaGreatDoorW.PrintWords
set_option linter.unusedVariables false
set_option linter.unusedSimpArgs false
def urlform_Unescape.f (a0 : ByteArray) : Option (ByteArray × Int × Int) :=
  if a0.size ≤ 140737488355328 then some (⟨(unescL a0.data.toList 0 []).1.toArray⟩, (unescL a0.data.toList 0 []).2.1, (unescL a0.data.toList 0 []).2.2) else none

theorem un_hex (c : UInt8) (v : Int) (h : hexI c = v) (w : World) :
    Calls Tryz.prog 106 #[.int .u8 (c.toNat : Int)] w fun e w' => e = .returned (.int .i64 v) ∧ w = w' := by
  unfold hexI at h
  go_enter Tryz.func106, Tryz.ntmps106
  subst h
  by_cases h1 : 65 ≤ (c.toNat : Int) <;> by_cases h2 : (c.toNat : Int) ≤ 70 <;> by_cases h3 : 97 ≤ (c.toNat : Int) <;> by_cases h4 : (c.toNat : Int) ≤ 102 <;> by_cases h5 : 48 ≤ (c.toNat : Int) <;> by_cases h6 : (c.toNat : Int) ≤ 57
  all_goals first | omega | skip
  all_goals go_wp2
  all_goals go_ret
  all_goals exact ⟨by simp [h1, h2, h3, h4, h5, h6], rfl⟩

theorem isBuilder_drew {T e B b : Nat} {bs : List Value} {W : World} (h : Lib.IsBuilder T e B b bs W) : Lib.IsBuilder T e B b bs W.drew := h
set_option maxHeartbeats 4000000 in
set_option maxRecDepth 100000 in
theorem urlform_Unescape.calls (a0 : ByteArray) (r1 : ByteArray) (r2 : Int) (r3 : Int) (w : World) (h : urlform_Unescape.f a0 = some (r1, r2, r3)) :
    Calls Tryz.prog 66 #[.string a0] w fun e w' => e = .returned (.tuple #[.string r1, .int .i64 r2, .int .i64 r3]) ∧ Below w.heap.size w w' := by
  unfold urlform_Unescape.f at h
  split at h
  · rename_i hs
    simp only [Option.some.injEq, Prod.mk.injEq] at h
    obtain ⟨rfl, rfl, rfl⟩ := h
    go_enter Tryz.func66, Tryz.ntmps66
    go_wp2
    go_loopw [6] (fun v6 wr => ∃ (k : Nat) (acc : List UInt8), k ≤ a0.size ∧ v6 = .int .i64 k ∧ Lib.IsBuilder 88 5 w.heap.size w.heap.size (Lib.byteCells acc) wr ∧ Below w.heap.size w wr ∧ acc.length ≤ k ∧ unescL (a0.data.toList.drop k) k acc = unescL a0.data.toList 0 []) (fun v6 _ => a0.size - (intOf v6).toNat)
    case atStart => exact ⟨0, [], Nat.zero_le _, rfl, Lib.fresh_isBuilder _ 5 w, (Below.refl _ w).alloc (Nat.le_refl _) _, Nat.zero_le _, rfl⟩
    case round =>
      obtain ⟨k, acc, hk, rfl, hI, hB, hal, hun⟩ := hrel
      have HUN := Lib.hid hun
      clear hun
      have hsz := hB.size
      have hlen : (Lib.byteCells acc).length ≤ k := by rw [Lib.byteCells_length]; exact hal
      by_cases hlt : k < a0.size
      · have HD := Lib.hid (drop_at a0 k hlt)
        by_cases hbad : (a0[k].toNat : Int) < 33 ∨ 126 < (a0[k].toNat : Int)
        · have HBAD := Lib.hid hbad
          rcases hbad with hb | hb
          all_goals
            go_wp2
            go_ret3
            refine ⟨?_, hB⟩
            rw [← HUN.out, HD.out, unescL_bad _ _ _ _ HBAD.out]
            rfl
        · have HBAD := Lib.hid hbad
          have hb1 : 33 ≤ (a0[k].toNat : Int) := by omega
          have hb2 : (a0[k].toNat : Int) ≤ 126 := by omega
          clear hbad
          by_cases hpl : a0[k] = 43
          · have hpt : ((a0[k].toNat : Int) == 43) = true := by rw [hpl]; rfl
            have HPL := Lib.hid hpl
            clear hpl
            go_wp2_with fail
            refine (Bld.writeByte w.heap.size w.heap.size _ 32 _ hI (by omega) (by omega)).mono ?_
            rintro e w1 ⟨rfl, h1, hb1, _⟩
            go_wp2
            go_roundw
            case rel =>
              refine ⟨k + 1, acc ++ [32], by omega, by go_num, ?_, hB.trans hb1, by simp; omega, ?_⟩
              · rw [Lib.byteCells_append]; exact h1
              · rw [← HUN.out, HD.out, unescL_plus _ _ _ _ HPL.out]
            case measure => simp [intOf]; omega
          · have hpt : ((a0[k].toNat : Int) == 43) = false := by
              have := u8_int a0[k] 43 (by omega)
              simp only [Int.cast_ofNat_Int] at this
              rw [this]
              exact beq_eq_false_iff_ne.2 hpl
            have HPL := Lib.hid hpl
            clear hpl
            by_cases hpc : a0[k] = 37
            · have hpt2 : ((a0[k].toNat : Int) == 37) = true := by rw [hpc]; rfl
              have HPC := Lib.hid hpc
              clear hpc
              by_cases h2 : k + 2 < a0.size
              · obtain ⟨v1, hv1⟩ : ∃ v, hexI a0[k + 1] = v := ⟨_, rfl⟩
                obtain ⟨v2, hv2⟩ : ∃ v, hexI a0[k + 2] = v := ⟨_, rfl⟩
                have hr1 := hexI_range a0[k + 1]
                have hr2 := hexI_range a0[k + 2]
                rw [hv1] at hr1
                rw [hv2] at hr2
                obtain ⟨l1, u1⟩ := hr1
                obtain ⟨l2, u2⟩ := hr2
                have HV1 := Lib.hid hv1
                have HV2 := Lib.hid hv2
                clear hv1 hv2
                have HD2 : Hid (a0.data.toList.drop k = a0[k] :: a0[k + 1] :: a0[k + 2] :: a0.data.toList.drop (k + 3)) := by
                  show _ = _
                  rw [drop_at a0 k (by omega), drop_at a0 (k + 1) (by omega), drop_at a0 (k + 2) (by omega)]
                go_wp2_with fail
                refine (un_hex _ v1 HV1.out _).mono ?_
                rintro e w' ⟨rfl, rfl⟩
                by_cases hn1 : v1 < 0
                · go_wp2
                  go_ret3
                  refine ⟨?_, hB⟩
                  rw [← HUN.out, HD2.out, unescL_nohex _ _ _ _ _ _ HPC.out (.inl (by rw [HV1.out]; exact hn1))]
                  rfl
                · go_wp2_with fail
                  refine (un_hex _ v2 HV2.out _).mono ?_
                  rintro e w' ⟨rfl, rfl⟩
                  by_cases hn2 : v2 < 0
                  · go_wp2
                    go_ret3
                    refine ⟨?_, hB⟩
                    rw [← HUN.out, HD2.out, unescL_nohex _ _ _ _ _ _ HPC.out (.inr (by rw [HV2.out]; exact hn2))]
                    rfl
                  · go_wp2_with fail
                    have q0 : 0 ≤ (k : Int) + 1 := by omega
                    have q1 : (k : Int) + 1 < (a0.size : Int) := by omega
                    have q2 : 0 ≤ (k : Int) + 2 := by omega
                    have q3 : (k : Int) + 2 < (a0.size : Int) := by omega
                    have q4 : IntKind.i64.wrap ((k : Int) + 1) = (k : Int) + 1 := IntWalk.i64_in _ (by omega)
                    have q5 : IntKind.i64.wrap ((k : Int) + 2) = (k : Int) + 2 := IntWalk.i64_in _ (by omega)
                    have q6 : ((k : Int) + 1).toNat = k + 1 := by omega
                    have q7 : ((k : Int) + 2).toNat = k + 2 := by omega
                    have q8 : IntKind.i64.wrap (16 * v1) = 16 * v1 := IntWalk.i64_in _ (by omega)
                    have q9 : IntKind.i64.wrap (16 * v1 + v2) = 16 * v1 + v2 := IntWalk.i64_in _ (by omega)
                    have q10 : IntKind.u8.wrap (16 * v1 + v2) = 16 * v1 + v2 := IntWalk.u8_in _ (by omega)
                    have hv : Hid (((UInt8.ofNat (16 * v1 + v2).toNat).toNat : Int) = 16 * v1 + v2) := by
                      show _ = _
                      rw [UInt8.toNat_ofNat']
                      omega
                    go_region_with (first
                      | (go_at_call 106; (with_reducible refine (un_hex _ v1 HV1.out _).mono ?_); rintro e w' ⟨rfl, rfl⟩)
                      | (go_at_call 106; (with_reducible refine (un_hex _ v2 HV2.out _).mono ?_); rintro e w' ⟨rfl, rfl⟩)
                      | (go_at_call 105; refine (Bld.writeByte w.heap.size w.heap.size _ _ _ (isBuilder_drew hI) ?side1 ?side2).mono ?_; (case side1 => omega); (case side2 => exact hsz); rintro e w' ⟨rfl, h1, hb1, _⟩))
                    all_goals clear q4 q5 q8 q9 q10
                    all_goals
                      go_wp2
                      go_roundw
                      case rel =>
                        refine ⟨k + 3, acc ++ [UInt8.ofNat (16 * v1 + v2).toNat], by omega, by go_num, ?_, hB.drew.trans hb1, by simp; omega, ?_⟩
                        · rw [Lib.byteCells_append]
                          show Lib.IsBuilder _ _ _ _ (Lib.byteCells acc ++ [Value.int .u8 ((UInt8.ofNat (16 * v1 + v2).toNat).toNat : Int)]) _
                          rw [hv.out]
                          exact h1
                        · rw [← HUN.out, HD2.out, unescL_hex _ _ _ _ _ _ HPC.out (by rw [HV1.out, HV2.out]; omega), HV1.out, HV2.out]
                      case measure => simp [intOf]; omega
              · go_wp2
                go_ret3
                refine ⟨?_, hB⟩
                rw [← HUN.out, HD.out, unescL_short _ _ _ _ HPC.out (by simp; omega)]
                rfl
            · have hpt2 : ((a0[k].toNat : Int) == 37) = false := by
                have := u8_int a0[k] 37 (by omega)
                simp only [Int.cast_ofNat_Int] at this
                rw [this]
                exact beq_eq_false_iff_ne.2 hpc
              have HPC := Lib.hid hpc
              clear hpc
              go_wp2_with fail
              refine (Bld.writeByte w.heap.size w.heap.size _ _ _ hI (by omega) (by omega)).mono ?_
              rintro e w1 ⟨rfl, h1, hb1, _⟩
              go_wp2
              go_roundw
              case rel =>
                refine ⟨k + 1, acc ++ [a0[k]], by omega, by go_num, ?_, hB.trans hb1, by simp; omega, ?_⟩
                · rw [Lib.byteCells_append]; exact h1
                · rw [← HUN.out, HD.out, unescL_keep _ _ _ _ HBAD.out HPL.out HPC.out]
              case measure => simp [intOf]; omega
      · go_wp2_with fail
        refine (Tryz.Builder_String_any w.heap.size w.heap.size _ _ hI (by omega)).mono ?_
        rintro e w1 ⟨rfl, hb1⟩
        go_wp2
        go_ret3
        refine ⟨?_, hB.trans hb1⟩
        rw [← HUN.out, List.drop_eq_nil_of_le (by simp; omega)]
        rfl
  · cases h
end Go.Proofs.YtmimipgmhgalaaaGreatDoor.PAll
