/-
  Part 4 of what the proof of ClientBasics leans on: words of the print, walks of functions and plain laws; put together by pack.py, a program of this session.
-/
import Derived.Lib.IndexMore
import Derived.Lib.SplitLaws
import Derived.Deep.LoopGhost
import Derived.Test.YtmimipgmhgalaaaGreatDoorRows
import Derived.ProofKit
import Derived.WalkKit
import Derived.SizedLaws
import Derived.Test.YtmimipgmhgalaaaGreatDoorTie
import Derived.Lib.LaidTab
import Derived.Lib.LaidU8
import Derived.Laws.BitsLemmas
import Derived.Laws.Rows
import Derived.IntWalk
import Derived.KernelRfl
import Derived.Lib.Bytes
import Derived.Lib.LazyBuf
import Derived.Test.YtmimipgmhgalaaaGreatDoorKClientBasicsc
section
namespace Go.Proofs.YtmimipgmhgalaaaGreatDoor.PAll
open Go.RowKit Go.Proofs.YtmimipgmhgalaaaGreatDoorW.PrintWords Go.Proofs.YtmimipgmhgalaaaGreatDoorW.PrintLast Go.Proofs.YtmimipgmhgalaaaGreatDoorW.PrintMore
attribute [local go_sem] max2_int min2_int max_two min_two max_three min_three max_four min_four
set_option linter.unusedVariables false
set_option linter.unusedSimpArgs false
attribute [local go_sem] IntKind.wrap_u8
mutual
def wicketref11_decoded.j1 : Nat → ByteArray → Int → Option (ByteArray × Bool)
 | 0, _, _ => none
 | k + 1, x0, x4 => wicketref11_decoded.l1 k x0 (wrap64 ((x0.size : Int) - x4)) ([] : List Int) 0
def wicketref11_decoded.l1 : Nat → ByteArray → Int → List Int → Int → Option (ByteArray × Bool)
 | 0, _, _, _, _ => none
 | k + 1, x0, x5, x6, x7 => if x7 < x5 then (if 0 ≤ x7 then (if x7 < (x0.size : Int) then ((wicketref11_six.f k (bt x0 x7)).bind fun t432 => (if t432 < 0 then (some ((⟨#[]⟩ : ByteArray), false)) else (wicketref11_decoded.l2 k x0 x5 x6 x7 t432 32))) else (none)) else (none)) else (wicketref11_decoded.l3 k x6 ([] : List Int))
def wicketref11_decoded.l2 : Nat → ByteArray → Int → List Int → Int → Int → Int → Option (ByteArray × Bool)
 | 0, _, _, _, _, _, _ => none
 | k + 1, x0, x5, x6, x7, x8, x9 => if x9 > 0 then (if x9 = 0 then (none) else (if x6.length < 17592186044416 then (wicketref11_decoded.l2 k x0 x5 (x6 ++ [Int.tmod (wrap64 (Int.tdiv x8 x9)) 2]) x7 x8 (wrap64 (Int.tdiv x9 2))) else (none))) else (wicketref11_decoded.l1 k x0 x5 x6 (wrap64 (x7 + 1)))
def wicketref11_decoded.l3 : Nat → List Int → List Int → Option (ByteArray × Bool)
 | 0, _, _ => none
 | k + 1, x6, x10 => if (x6.length : Int) ≥ 8 then (wicketref11_decoded.l4 k x6 x10 0 0) else (wicketref11_decoded.l5 k x6 x10 0)
def wicketref11_decoded.l4 : Nat → List Int → List Int → Int → Int → Option (ByteArray × Bool)
 | 0, _, _, _, _ => none
 | k + 1, x6, x10, x11, x12 => if x12 < 8 then (if 0 ≤ x12 then (if x12 < (x6.length : Int) then (wicketref11_decoded.l4 k x6 x10 (wrap64 ((wrap64 (2 * x11)) + (rd x6 x12))) (wrap64 (x12 + 1))) else (none)) else (none)) else (if x10.length < 140737488355328 then (if 8 ≤ (x6.length : Int) then (wicketref11_decoded.l3 k (x6.drop (8 : Int).toNat) (x10 ++ [(x11) % 256])) else (none)) else (none))
def wicketref11_decoded.l5 : Nat → List Int → List Int → Int → Option (ByteArray × Bool)
 | 0, _, _, _ => none
 | k + 1, x6, x10, x13 => if x13 < (x6.length : Int) then (if 0 ≤ x13 then (if (rd x6 x13) = 0 then (wicketref11_decoded.l5 k x6 x10 (wrap64 (x13 + 1))) else (some ((⟨#[]⟩ : ByteArray), false))) else (none)) else (some (strOfNums x10, decide ((x6.length : Int) < 6)))
def wicketref11_decoded.l0 : Nat → ByteArray → Int → Option (ByteArray × Bool)
 | 0, _, _ => none
 | k + 1, x0, x4 => if x4 < 2 then (if x4 < (x0.size : Int) then (if 0 ≤ (wrap64 ((wrap64 ((x0.size : Int) - 1)) - x4)) then (if (wrap64 ((wrap64 ((x0.size : Int) - 1)) - x4)) < (x0.size : Int) then (if (bt x0 (wrap64 ((wrap64 ((x0.size : Int) - 1)) - x4))) = 61 then (wicketref11_decoded.l0 k x0 (wrap64 (x4 + 1))) else (wicketref11_decoded.j1 k x0 x4)) else (none)) else (none)) else (wicketref11_decoded.j1 k x0 x4)) else (wicketref11_decoded.j1 k x0 x4)
end
def wicketref11_decoded.f (k : Nat) (a0 : ByteArray) : Option (ByteArray × Bool) := if ((a0.size : Int) % 4) = 0 then (wicketref11_decoded.l0 k a0 0) else (some ((⟨#[]⟩ : ByteArray), false))
set_option maxHeartbeats 8000000 in
set_option maxRecDepth 100000 in
theorem wicketref11_decoded.calls (k : Nat) (a0 : ByteArray) (r1 : ByteArray) (r2 : Bool) (w : World) (h : wicketref11_decoded.f k a0 = some (r1, r2)) :
 Calls Tryz.prog 67 #[.string a0] w fun e w' => e = .returned (.tuple #[.string r1, .bool r2]) ∧ Below w.heap.size w w' := by
 have HB := Aside0.mk (Below.refl w.heap.size w)
 have H : (if ((a0.size : Int) % 4) = 0 then (wicketref11_decoded.l0 k a0 0) else (some ((⟨#[]⟩ : ByteArray), false))) = some (r1, r2) := h
 clear h
 by_cases c2 : ((a0.size : Int) % 4) = 0
 · rw [if_pos c2] at H
   have c2b0 : (((a0.size : Int) % 4) == 0) = true := beq_iff_eq.mpr c2
   have c2b1 : (((a0.size : Int) % 4) != 0) = false := bne_eq_false_iff_eq.mpr c2
   clear c2
   have HC3 := Aside0.mk H
   clear H
   go_enter Tryz.func67, Tryz.ntmps67
   go_upto_block 0 with (fail)
   go_cut [4] (fun v4 wc => ∃ (kq : Nat) (x4_2 : Int), v4 = .int .i64 x4_2 ∧ Aside0 (wicketref11_decoded.j1 kq a0 x4_2 = some (r1, r2)) ∧ Aside0 (kq ≤ k) ∧ Aside0 (Below w.heap.size w wc))
   case first =>
    have H := HC3.out
    clear HC3
    have H' := Aside0.mk H
    clear H
    go_wp2
    go_loopg [4] k (fun kq v4 w' => ∃ (x4_1 : Int), v4 = .int .i64 x4_1 ∧ Aside0 (wicketref11_decoded.l0 kq a0 x4_1 = some (r1, r2)) ∧ Aside0 (kq ≤ k) ∧ Aside0 (Below w.heap.size w w'))
    case atStart => exact ⟨(0), rfl, H', ⟨Nat.le_refl _⟩, ⟨HB.out⟩⟩
    case round =>
     clear H' c2b0 c2b1
     obtain ⟨x4_1, rfl, HA, HK1, HB⟩ := hrel
     cases gk with
     | zero => exact absurd HA.out (by simp [wicketref11_decoded.l0])
     | succ k1 =>
      have H := HA.out
      clear HA
      simp only [wicketref11_decoded.l0] at H
      by_cases c4 : x4_1 < 2
      · rw [if_pos c4] at H
        have c4b0 : decide (x4_1 < 2) = true := decide_eq_true c4
        clear c4
        by_cases c5 : x4_1 < (a0.size : Int)
        · rw [if_pos c5] at H
          have c5b0 : decide (x4_1 < (a0.size : Int)) = true := decide_eq_true c5
          clear c5
          obtain ⟨ji6, hji6⟩ : ∃ j_ : Int, (wrap64 ((wrap64 ((a0.size : Int) - 1)) - x4_1)) = j_ := ⟨_, rfl⟩
          replace H : (if 0 ≤ (ji6) then (if (ji6) < (a0.size : Int) then (if (bt a0 (ji6)) = 61 then (wicketref11_decoded.l0 k1 a0 (wrap64 (x4_1 + 1))) else (wicketref11_decoded.j1 k1 a0 x4_1)) else (none)) else (none)) = some (r1, r2) := by (rw [hji6] at H; exact H)
          have hji6w : (IntKind.i64.wrap ((wrap64 ((a0.size : Int) - 1)) - x4_1)) = ji6 := (i64_w _).trans hji6
          by_cases c7 : 0 ≤ (ji6)
          · rw [if_pos c7] at H
            have c7b0 : decide (0 ≤ (ji6)) = true := decide_eq_true c7
            clear c7
            by_cases c8 : (ji6) < (a0.size : Int)
            · rw [if_pos c8] at H
              have c8b0 : decide ((ji6) < (a0.size : Int)) = true := decide_eq_true c8
              clear c8
              by_cases c10 : (bt a0 (ji6)) = 61
              · rw [if_pos c10] at H
                have c10b0 : ((bt a0 (ji6)) == 61) = true := beq_iff_eq.mpr c10
                have c10b1 : ((bt a0 (ji6)) != 61) = false := bne_eq_false_iff_eq.mpr c10
                clear c10
                have H' := Aside0.mk H
                clear H
                have p9 : 0 ≤ ((ji6) : Int) := of_decide_eq_true (by assumption)
                have q9 : (ji6) < (a0.size : Int) := of_decide_eq_true (by assumption)
                have hx9 := bt_at a0 (ji6)
                replace p9 := eq_true p9
                replace q9 := eq_true q9
                go_wp2
                go_roundg k1
                case measure => have := HK1.out; omega
                case rel => exact ⟨(wrap64 (x4_1 + 1)), rfl, H', ⟨by have := HK1.out; omega⟩, ⟨HB.out⟩⟩
              · rw [if_neg c10] at H
                have c10b0 : ((bt a0 (ji6)) == 61) = false := beq_eq_false_iff_ne.mpr c10
                have c10b1 : ((bt a0 (ji6)) != 61) = true := bne_iff_ne.mpr c10
                have H' := Aside0.mk H
                clear H
                have p9 : 0 ≤ ((ji6) : Int) := of_decide_eq_true (by assumption)
                have q9 : (ji6) < (a0.size : Int) := of_decide_eq_true (by assumption)
                have hx9 := bt_at a0 (ji6)
                replace p9 := eq_true p9
                replace q9 := eq_true q9
                go_wp2
                go_meet
                case rel => exact ⟨_, (x4_1), rfl, H', ⟨by have := HK1.out; (omega)⟩, ⟨HB.out⟩⟩
            · rw [if_neg c8] at H
              exact absurd H (by simp)
          · rw [if_neg c7] at H
            exact absurd H (by simp)
        · rw [if_neg c5] at H
          have c5b0 : decide (x4_1 < (a0.size : Int)) = false := decide_eq_false c5
          clear c5
          have H' := Aside0.mk H
          clear H
          go_wp2
          go_meet
          case rel => exact ⟨_, (x4_1), rfl, H', ⟨by have := HK1.out; (omega)⟩, ⟨HB.out⟩⟩
      · rw [if_neg c4] at H
        have c4b0 : decide (x4_1 < 2) = false := decide_eq_false c4
        clear c4
        have H' := Aside0.mk H
        clear H
        go_wp2
        go_meet
        case rel => exact ⟨_, (x4_1), rfl, H', ⟨by have := HK1.out; (omega)⟩, ⟨HB.out⟩⟩
   case rest =>
    clear HC3 c2b0 c2b1
    obtain ⟨kq, x4_2, rfl, HA, HJ2, HB⟩ := hcut
    cases kq with
    | zero => exact absurd HA.out (by simp [wicketref11_decoded.j1])
    | succ kj2 =>
     have H := HA.out
     clear HA
     simp only [wicketref11_decoded.j1] at H
     have H' := Aside0.mk H
     clear H
     go_wp2
     go_loopg [6, 7] kj2 (fun kq v6 v7 w' => ∃ (x6_2 : List Int) (x7_2 : Int), v7 = .int .i64 x7_2 ∧ Aside0 (wicketref11_decoded.l1 kq a0 (wrap64 ((a0.size : Int) - x4_2)) x6_2 x7_2 = some (r1, r2)) ∧ Aside0 (kq ≤ kj2) ∧ Aside0 (Kd.Q (Kd.int .i64) 3 w' w.heap.size (fun _ => True) v6 x6_2) ∧ Aside0 (Below w.heap.size w w'))
     case atStart => exact ⟨(([] : List Int)), (0), rfl, H', ⟨Nat.le_refl _⟩, ⟨Kd.Q_of_R (by exact Kd.R_nil _ _ _ _ _)⟩, ⟨HB.out⟩⟩
     case round =>
      clear H'
      obtain ⟨x6_2, x7_2, rfl, HA, HK2, HO_6, HB⟩ := hrel
      cases gk with
      | zero => exact absurd HA.out (by simp [wicketref11_decoded.l1])
      | succ k2 =>
       have H := HA.out
       clear HA
       simp only [wicketref11_decoded.l1] at H
       by_cases c11 : x7_2 < (wrap64 ((a0.size : Int) - x4_2))
       · rw [if_pos c11] at H
         have c11b0 : decide (x7_2 < (wrap64 ((a0.size : Int) - x4_2))) = true := decide_eq_true c11
         clear c11
         by_cases c12 : 0 ≤ x7_2
         · rw [if_pos c12] at H
           have c12b0 : decide (0 ≤ x7_2) = true := decide_eq_true c12
           clear c12
           by_cases c13 : x7_2 < (a0.size : Int)
           · rw [if_pos c13] at H
             have c13b0 : decide (x7_2 < (a0.size : Int)) = true := decide_eq_true c13
             clear c13
             replace H := Option.bind_eq_some_iff.mp H
             obtain ⟨t432, A150, H⟩ := H
             replace H : (if t432 < 0 then (some ((⟨#[]⟩ : ByteArray), false)) else (wicketref11_decoded.l2 k2 a0 (wrap64 ((a0.size : Int) - x4_2)) x6_2 x7_2 t432 32)) = some (r1, r2) := H
             have A15 := Aside0.mk A150
             clear A150
             by_cases c16 : t432 < 0
             · rw [if_pos c16] at H
               have c16b0 : decide (t432 < 0) = true := decide_eq_true c16
               clear c16
               simp only [Option.some.injEq, Prod.mk.injEq] at H
               obtain ⟨rfl, rfl⟩ := H
               have p14 : 0 ≤ (x7_2 : Int) := of_decide_eq_true (by assumption)
               have q14 : x7_2 < (a0.size : Int) := of_decide_eq_true (by assumption)
               have hx14 := bt_at a0 x7_2
               replace p14 := eq_true p14
               replace q14 := eq_true q14
               go_wp2_with (first | ((with_reducible refine gate_callee (f := 107) rfl ?_); refine goesL_ (some 50) rfl rfl Tryz.func107 (by kernel_rfl) rfl #[.int .u8 (bt a0 x7_2)] rfl (by ((try simp only [List.map_toArray, List.map_cons, List.map_nil]); (rfl))) ?_; (with_reducible refine (wicketref11_six.calls k2 (bt a0 x7_2) t432 _ A15.out).mono ?_); rintro e w' ⟨rfl, ⟨nd, rfl⟩⟩; refine ⟨_, rfl, ?_⟩))
               go_ret2
               exact ⟨by (rfl), by (repeat (with_reducible first | exact HB.out | apply pw_below_drewN))⟩
             · rw [if_neg c16] at H
               have c16b0 : decide (t432 < 0) = false := decide_eq_false c16
               clear c16
               have H' := Aside0.mk H
               clear H
               have p14 : 0 ≤ (x7_2 : Int) := of_decide_eq_true (by assumption)
               have q14 : x7_2 < (a0.size : Int) := of_decide_eq_true (by assumption)
               have hx14 := bt_at a0 x7_2
               replace p14 := eq_true p14
               replace q14 := eq_true q14
               go_wp2_with (first | ((with_reducible refine gate_callee (f := 107) rfl ?_); refine goesL_ (some 50) rfl rfl Tryz.func107 (by kernel_rfl) rfl #[.int .u8 (bt a0 x7_2)] rfl (by ((try simp only [List.map_toArray, List.map_cons, List.map_nil]); (rfl))) ?_; (with_reducible refine (wicketref11_six.calls k2 (bt a0 x7_2) t432 _ A15.out).mono ?_); rintro e w' ⟨rfl, ⟨nd, rfl⟩⟩; refine ⟨_, rfl, ?_⟩))
               go_loopg [6, 9] k2 (fun kq v6 v9 w' => ∃ (x6_3 : List Int) (x9_3 : Int), v9 = .int .i64 x9_3 ∧ Aside0 (wicketref11_decoded.l2 kq a0 (wrap64 ((a0.size : Int) - x4_2)) x6_3 x7_2 t432 x9_3 = some (r1, r2)) ∧ Aside0 (kq ≤ k2) ∧ Aside0 (Kd.Q (Kd.int .i64) 3 w' w.heap.size (fun _ => True) v6 x6_3) ∧ Aside0 (Below w.heap.size w w'))
               case atStart => exact ⟨(x6_2), (32), rfl, H', ⟨Nat.le_refl _⟩, ⟨by ((with_reducible repeat (apply Kd.Q_drewN)); exact HO_6.out)⟩, ⟨by (repeat (with_reducible first | exact HB.out | apply pw_below_drewN))⟩⟩
               case round =>
                clear H' c11b0 c12b0 c13b0 p14 q14 hx14 c16b0
                obtain ⟨x6_3, x9_3, rfl, HA, HK3, HO_6, HB⟩ := hrel
                cases gk with
                | zero => exact absurd HA.out (by simp [wicketref11_decoded.l2])
                | succ k3 =>
                 have H := HA.out
                 clear HA
                 simp only [wicketref11_decoded.l2] at H
                 by_cases c17 : x9_3 > 0
                 · rw [if_pos c17] at H
                   have c17b0 : decide (0 < x9_3) = true := decide_eq_true c17
                   clear c17
                   by_cases c18 : x9_3 = 0
                   · rw [if_pos c18] at H
                     exact absurd H (by simp)
                   · rw [if_neg c18] at H
                     have c18b0 : (x9_3 == 0) = false := beq_eq_false_iff_ne.mpr c18
                     have c18b1 : (x9_3 != 0) = true := bne_iff_ne.mpr c18
                     by_cases c19 : x6_3.length < 17592186044416
                     · rw [if_pos c19] at H
                       have LMc19 := Aside0.mk c19
                       clear c19
                       obtain ⟨y433, hy433⟩ : ∃ y_ : List Int, y_ = (x6_3 ++ [Int.tmod (wrap64 (Int.tdiv t432 x9_3)) 2]) := ⟨_, rfl⟩
                       replace H : (wicketref11_decoded.l2 k3 a0 (wrap64 ((a0.size : Int) - x4_2)) y433 x7_2 t432 (wrap64 (Int.tdiv x9_3 2))) = some (r1, r2) := by (rw [hy433]; with_reducible exact H)
                       have Ny433 := Aside0.mk hy433
                       clear hy433
                       have H' := Aside0.mk H
                       clear H
                       go_wp2_with (first | ((with_reducible refine gate_builtin (b := .append) (xs := #[.tmp 57, .tmp 62]) rfl ?_); (try (refine gate_guard rfl ?_; dsimp only)); at_builtin; refine Kd.Q_append (Kd.int .i64) (w0 := w) w.heap.size rfl (.tmp 57) (.tmp 62) 122 3 (.int .i64 0) 8 rfl Tryz.underlying122 info3 rfl (by decide) (by omega) u6 x6_3 (Int.tmod (wrap64 (Int.tdiv t432 x9_3)) 2) [.int .i64 (Int.tmod (wrap64 (Int.tdiv t432 x9_3)) 2)] (fun _ => True) (fun _ => False) rfl rfl ?aP (fun _ hk => hk.elim) ?aF ?aO ?aB ?aS ?aL ?_; (case aP => exact rfl); (case aB => exact HB.out); (case aF => exact (fun _ _ => trivial)); (case aO => exact HO_6.out); (case aS => exact (below_size HB.out)); (case aL => have := LMc19.out; omega); intro v434 w20 ho hb hg hat; rw [← Ny433.out] at ho; have n0_ := Aside0.mk hb; have n1_ := Aside0.mk ho; clear HB HO_6; have HB := n0_; have HO435 := n1_; clear n0_ n1_; clear ho hb hg hat))
                       go_roundg k3
                       case measure => have := HJ2.out; have := HK2.out; have := HK3.out; omega
                       case rel => exact ⟨(y433), (wrap64 (Int.tdiv x9_3 2)), rfl, H', ⟨by have := HJ2.out; have := HK2.out; have := HK3.out; omega⟩, ⟨HO435.out⟩, ⟨HB.out⟩⟩
                     · rw [if_neg c19] at H
                       exact absurd H (by simp)
                 · rw [if_neg c17] at H
                   have c17b0 : decide (0 < x9_3) = false := decide_eq_false c17
                   clear c17
                   have H' := Aside0.mk H
                   clear H
                   go_wp2
                   go_roundg k3
                   case measure => have := HJ2.out; have := HK2.out; have := HK3.out; omega
                   case rel => exact ⟨(x6_3), (wrap64 (x7_2 + 1)), rfl, H', ⟨by have := HJ2.out; have := HK2.out; have := HK3.out; omega⟩, ⟨HO_6.out⟩, ⟨HB.out⟩⟩
           · rw [if_neg c13] at H
             exact absurd H (by simp)
         · rw [if_neg c12] at H
           exact absurd H (by simp)
       · rw [if_neg c11] at H
         have c11b0 : decide (x7_2 < (wrap64 ((a0.size : Int) - x4_2))) = false := decide_eq_false c11
         clear c11
         have H' := Aside0.mk H
         clear H
         go_wp2
         go_loopg [6, 10] k2 (fun kq v6 v10 w' => ∃ (x6_3 : List Int) (x10_3 : List Int), Aside0 (wicketref11_decoded.l3 kq x6_3 x10_3 = some (r1, r2)) ∧ Aside0 (kq ≤ k2) ∧ Aside0 (Kd.Q (Kd.int .i64) 3 w' w.heap.size (fun _ => True) v6 x6_3) ∧ Aside0 (Kd.R (Kd.int .u8) 5 w' w.heap.size (fun _ => True) v10 x10_3) ∧ Aside0 (Below w.heap.size w w'))
         case atStart => exact ⟨(x6_2), (([] : List Int)), H', ⟨Nat.le_refl _⟩, ⟨HO_6.out⟩, ⟨by (exact Kd.R_nil _ _ _ _ _)⟩, ⟨HB.out⟩⟩
         case round =>
          clear H' c11b0
          obtain ⟨x6_3, x10_3, HA, HK3, HO_6, HO_10, HB⟩ := hrel
          cases gk with
          | zero => exact absurd HA.out (by simp [wicketref11_decoded.l3])
          | succ k3 =>
           have H := HA.out
           clear HA
           simp only [wicketref11_decoded.l3] at H
           by_cases c21 : (x6_3.length : Int) ≥ 8
           · rw [if_pos c21] at H
             have c21b0 : decide (8 ≤ (x6_3.length : Int)) = true := decide_eq_true c21
             have c21b1 : decide (8 ≤ x6_3.length) = true := decide_eq_true (by omega)
             clear c21
             have H' := Aside0.mk H
             clear H
             obtain ⟨Ao22, co22, eo22, _⟩ := Kd.Q_slice HO_6.out
             subst eo22
             go_wp2
             go_loopg [11, 12] k3 (fun kq v11 v12 w' => ∃ (x11_4 : Int) (x12_4 : Int), v11 = .int .i64 x11_4 ∧ v12 = .int .i64 x12_4 ∧ Aside0 (wicketref11_decoded.l4 kq x6_3 x10_3 x11_4 x12_4 = some (r1, r2)) ∧ Aside0 (kq ≤ k3) ∧ Aside0 (Kd.Q (Kd.int .i64) 3 w' w.heap.size (fun _ => True) (.slice Ao22 x6_3.length co22) x6_3) ∧ Aside0 (Kd.R (Kd.int .u8) 5 w' w.heap.size (fun _ => True) u10 x10_3) ∧ Aside0 (Below w.heap.size w w'))
             case atStart => exact ⟨(0), (0), rfl, rfl, H', ⟨Nat.le_refl _⟩, ⟨HO_6.out⟩, ⟨HO_10.out⟩, ⟨HB.out⟩⟩
             case round =>
              clear H' c21b0 c21b1
              obtain ⟨x11_4, x12_4, rfl, rfl, HA, HK4, HO_6, HO_10, HB⟩ := hrel
              cases gk with
              | zero => exact absurd HA.out (by simp [wicketref11_decoded.l4])
              | succ k4 =>
               have H := HA.out
               clear HA
               simp only [wicketref11_decoded.l4] at H
               by_cases c23 : x12_4 < 8
               · rw [if_pos c23] at H
                 have c23b0 : decide (x12_4 < 8) = true := decide_eq_true c23
                 clear c23
                 by_cases c24 : 0 ≤ x12_4
                 · rw [if_pos c24] at H
                   have c24b0 : decide (0 ≤ x12_4) = true := decide_eq_true c24
                   clear c24
                   by_cases c25 : x12_4 < (x6_3.length : Int)
                   · rw [if_pos c25] at H
                     have c25b0 : decide (x12_4 < (x6_3.length : Int)) = true := decide_eq_true c25
                     clear c25
                     have H' := Aside0.mk H
                     clear H
                     have p436 : 0 ≤ (x12_4 : Int) := of_decide_eq_true (by assumption)
                     have q436 : x12_4 < (x6_3.length : Int) := of_decide_eq_true (by assumption)
                     obtain ⟨ad436, e436, hx436_0⟩ := Kd.at_int (Kd.Q_reads' HO_6.out).2.2 x12_4 p436 q436
                     cases e436
                     replace p436 := eq_true p436
                     replace q436 := eq_true q436
                     go_wp2
                     go_roundg k4
                     case measure => have := HJ2.out; have := HK2.out; have := HK3.out; have := HK4.out; omega
                     case rel => exact ⟨(wrap64 ((wrap64 (2 * x11_4)) + (rd x6_3 x12_4))), (wrap64 (x12_4 + 1)), rfl, rfl, H', ⟨by have := HJ2.out; have := HK2.out; have := HK3.out; have := HK4.out; omega⟩, ⟨HO_6.out⟩, ⟨HO_10.out⟩, ⟨HB.out⟩⟩
                   · rw [if_neg c25] at H
                     exact absurd H (by simp)
                 · rw [if_neg c24] at H
                   exact absurd H (by simp)
               · rw [if_neg c23] at H
                 have c23b0 : decide (x12_4 < 8) = false := decide_eq_false c23
                 clear c23
                 by_cases c26 : x10_3.length < 140737488355328
                 · rw [if_pos c26] at H
                   have LMc26 := Aside0.mk c26
                   clear c26
                   obtain ⟨y437, hy437⟩ : ∃ y_ : List Int, y_ = (x10_3 ++ [(x11_4) % 256]) := ⟨_, rfl⟩
                   replace H : (if 8 ≤ (x6_3.length : Int) then (wicketref11_decoded.l3 k4 (x6_3.drop (8 : Int).toNat) y437) else (none)) = some (r1, r2) := by (rw [hy437]; with_reducible exact H)
                   have Ny437 := Aside0.mk hy437
                   clear hy437
                   by_cases c27 : 8 ≤ (x6_3.length : Int)
                   · rw [if_pos c27] at H
                     have c27b0 := eq_true c27
                     have c27b1 : decide (8 ≤ (x6_3.length : Int)) = true := decide_eq_true c27
                     clear c27
                     obtain ⟨y440, hy440⟩ : ∃ y_ : List Int, y_ = (x6_3.drop (8 : Int).toNat) := ⟨_, rfl⟩
                     replace H : (wicketref11_decoded.l3 k4 y440 y437) = some (r1, r2) := by (rw [hy440]; with_reducible exact H)
                     have Ny440 := Aside0.mk hy440
                     clear hy440
                     have H' := Aside0.mk H
                     clear H
                     go_wp2_with (first | ((with_reducible refine gate_builtin (b := .append) (xs := #[.tmp 78, .tmp 81]) rfl ?_); (try (refine gate_guard rfl ?_; dsimp only)); at_builtin; refine Kd.R_append (Kd.int .u8) (w0 := w) w.heap.size rfl (.tmp 78) (.tmp 81) 79 5 (.int .u8 0) 1 rfl Tryz.underlying79 info5 rfl (by decide) (by omega) u10 x10_3 ((x11_4) % 256) [.int .u8 ((x11_4) % 256)] (fun _ => True) (fun _ => False) rfl rfl ?aP (fun _ hk => hk.elim) ?aF ?aO ?aB ?aS ?aL ?_; (case aP => exact rfl); (case aB => exact HB.out); (case aF => exact (fun _ _ => trivial)); (case aO => exact HO_10.out); (case aS => exact (below_size HB.out)); (case aL => have := LMc26.out; omega); intro v438 w28 ho hb hg hat; rw [← Ny437.out] at ho; have n0_ := Aside0.mk (Kd.Q_over' HO_6.out (Kd.R_typed HO_10.out) (by decide) hg); have n1_ := Aside0.mk hb; have n2_ := Aside0.mk ho; clear HO_6 HB HO_10; have HO_6 := n0_; have HB := n1_; have HO439 := n2_; clear n0_ n1_ n2_; clear ho hb hg hat; have q29 : (8 : Int) ≤ ((x6_3.length : Int) : Int) := of_decide_eq_true (by assumption); obtain ⟨i029, hi029, _, hsz29, _⟩ := info_parts info3; have hcut29 := cut_from (P := Tryz.prog) 122 3 .i64 Tryz.underlying122 hi029 1 hsz29 Ao22 x6_3.length co22 8 (by omega) q29; have hr29 := Kd.Q_drop (k := (8 : Int).toNat) HO_6.out (by omega); obtain ⟨A29, hA29⟩ : ∃ A1, A1 = (if co22 = (8 : Int).toNat then Ao22 else (Ao22 : Option Addr).map (·.add ((8 : Int).toNat * 1))) := ⟨_, rfl⟩; obtain ⟨c29, hc29⟩ : ∃ c1, c1 = co22 - (8 : Int).toNat := ⟨_, rfl⟩; have hy29 : y440.length = x6_3.length - (8 : Int).toNat := (by rw [Ny440.out, List.length_drop]); rw [← Ny440.out] at hr29; rw [← hy29, ← hA29, ← hc29] at hcut29; replace hr29 : Kd.Q (Kd.int .i64) 3 w28 w.heap.size (fun _ => True) (.slice A29 y440.length c29) y440 := (by rw [hA29, hc29, hy29]; exact hr29); have HE29 : Aside0 ((Value.slice A29 y440.length c29).ownBlock = (.slice Ao22 x6_3.length co22 : Value).ownBlock) := ⟨by rw [hA29]; split <;> (cases (Ao22 : Option Addr) <;> rfl)⟩; clear hy29 hi029 hsz29 HO_6 hA29 hc29; have HO442 := Aside0.mk hr29; clear hr29; replace q29 := eq_true q29))
                     go_roundg k4
                     case measure => have := HJ2.out; have := HK2.out; have := HK3.out; have := HK4.out; omega
                     case rel => exact ⟨(y440), (y437), H', ⟨by have := HJ2.out; have := HK2.out; have := HK3.out; have := HK4.out; omega⟩, ⟨HO442.out⟩, ⟨HO439.out⟩, ⟨HB.out⟩⟩
                   · rw [if_neg c27] at H
                     exact absurd H (by simp)
                 · rw [if_neg c26] at H
                   exact absurd H (by simp)
           · rw [if_neg c21] at H
             have c21b0 : decide (8 ≤ (x6_3.length : Int)) = false := decide_eq_false c21
             have c21b1 : decide (8 ≤ x6_3.length) = false := decide_eq_false (by omega)
             clear c21
             have H' := Aside0.mk H
             clear H
             obtain ⟨Ao30, co30, eo30, _⟩ := Kd.Q_slice HO_6.out
             subst eo30
             go_wp2
             go_loopg [13] k3 (fun kq v13 w' => ∃ (x13_4 : Int), v13 = .int .i64 x13_4 ∧ Aside0 (wicketref11_decoded.l5 kq x6_3 x10_3 x13_4 = some (r1, r2)) ∧ Aside0 (kq ≤ k3) ∧ Aside0 (Kd.Q (Kd.int .i64) 3 w' w.heap.size (fun _ => True) (.slice Ao30 x6_3.length co30) x6_3) ∧ Aside0 (Kd.R (Kd.int .u8) 5 w' w.heap.size (fun _ => True) u10 x10_3) ∧ Aside0 (Below w.heap.size w w'))
             case atStart => exact ⟨(0), rfl, H', ⟨Nat.le_refl _⟩, ⟨HO_6.out⟩, ⟨HO_10.out⟩, ⟨HB.out⟩⟩
             case round =>
              clear H' c21b0 c21b1
              obtain ⟨x13_4, rfl, HA, HK4, HO_6, HO_10, HB⟩ := hrel
              cases gk with
              | zero => exact absurd HA.out (by simp [wicketref11_decoded.l5])
              | succ k4 =>
               have H := HA.out
               clear HA
               simp only [wicketref11_decoded.l5] at H
               by_cases c31 : x13_4 < (x6_3.length : Int)
               · rw [if_pos c31] at H
                 have c31b0 : decide (x13_4 < (x6_3.length : Int)) = true := decide_eq_true c31
                 clear c31
                 by_cases c32 : 0 ≤ x13_4
                 · rw [if_pos c32] at H
                   have c32b0 : decide (0 ≤ x13_4) = true := decide_eq_true c32
                   clear c32
                   by_cases c33 : (rd x6_3 x13_4) = 0
                   · rw [if_pos c33] at H
                     have c33b0 : ((rd x6_3 x13_4) == 0) = true := beq_iff_eq.mpr c33
                     have c33b1 : ((rd x6_3 x13_4) != 0) = false := bne_eq_false_iff_eq.mpr c33
                     clear c33
                     have H' := Aside0.mk H
                     clear H
                     have p443 : 0 ≤ (x13_4 : Int) := of_decide_eq_true (by assumption)
                     have q443 : x13_4 < (x6_3.length : Int) := of_decide_eq_true (by assumption)
                     obtain ⟨ad443, e443, hx443_0⟩ := Kd.at_int (Kd.Q_reads' HO_6.out).2.2 x13_4 p443 q443
                     cases e443
                     replace p443 := eq_true p443
                     replace q443 := eq_true q443
                     go_wp2
                     go_roundg k4
                     case measure => have := HJ2.out; have := HK2.out; have := HK3.out; have := HK4.out; omega
                     case rel => exact ⟨(wrap64 (x13_4 + 1)), rfl, H', ⟨by have := HJ2.out; have := HK2.out; have := HK3.out; have := HK4.out; omega⟩, ⟨HO_6.out⟩, ⟨HO_10.out⟩, ⟨HB.out⟩⟩
                   · rw [if_neg c33] at H
                     have c33b0 : ((rd x6_3 x13_4) == 0) = false := beq_eq_false_iff_ne.mpr c33
                     have c33b1 : ((rd x6_3 x13_4) != 0) = true := bne_iff_ne.mpr c33
                     simp only [Option.some.injEq, Prod.mk.injEq] at H
                     obtain ⟨rfl, rfl⟩ := H
                     have p443 : 0 ≤ (x13_4 : Int) := of_decide_eq_true (by assumption)
                     have q443 : x13_4 < (x6_3.length : Int) := of_decide_eq_true (by assumption)
                     obtain ⟨ad443, e443, hx443_0⟩ := Kd.at_int (Kd.Q_reads' HO_6.out).2.2 x13_4 p443 q443
                     cases e443
                     replace p443 := eq_true p443
                     replace q443 := eq_true q443
                     go_wp2
                     go_ret2
                     exact ⟨by (rfl), by (with_reducible exact HB.out)⟩
                 · rw [if_neg c32] at H
                   exact absurd H (by simp)
               · rw [if_neg c31] at H
                 have c31b0 : decide (x13_4 < (x6_3.length : Int)) = false := decide_eq_false c31
                 clear c31
                 simp only [Option.some.injEq, Prod.mk.injEq] at H
                 obtain ⟨rfl, rfl⟩ := H
                 have hcv34 := own_string (P := Tryz.prog) Tryz.underlying79 Tryz.underlying5 Tryz.underlying9 (Kd.own_of_R HO_10.out)
                 go_wp2
                 go_ret2
                 exact ⟨by (rfl), by (with_reducible exact HB.out)⟩
 · rw [if_neg c2] at H
   have c2b0 : (((a0.size : Int) % 4) == 0) = false := beq_eq_false_iff_ne.mpr c2
   have c2b1 : (((a0.size : Int) % 4) != 0) = true := bne_iff_ne.mpr c2
   simp only [Option.some.injEq, Prod.mk.injEq] at H
   obtain ⟨rfl, rfl⟩ := H
   go_enter Tryz.func67, Tryz.ntmps67
   go_wp2
   go_ret2
   exact ⟨by (rfl), by (with_reducible exact HB.out)⟩
end Go.Proofs.YtmimipgmhgalaaaGreatDoor.PAll
end
section
namespace Go.Proofs.YtmimipgmhgalaaaGreatDoor.PAll
open Go.RowKit Go.Proofs.YtmimipgmhgalaaaGreatDoorW.PrintWords Go.Proofs.YtmimipgmhgalaaaGreatDoorW.PrintLast Go.Proofs.YtmimipgmhgalaaaGreatDoorW.PrintMore
attribute [local go_sem] max2_int min2_int max_two min_two max_three min_three max_four min_four
set_option linter.unusedVariables false
set_option linter.unusedSimpArgs false
mutual
def wicketref11_Basic.j0 : Nat → ByteArray → ByteArray → Bool → Option (ByteArray × ByteArray × Int)
 | 0, _, _, _ => none
 | k + 1, x0, x5, x25 => if x25 = true then (some ((⟨#[]⟩ : ByteArray), (⟨#[]⟩ : ByteArray), 113)) else (wicketref11_Basic.l0 k x0 x5 0)
def wicketref11_Basic.l0 : Nat → ByteArray → ByteArray → Int → Option (ByteArray × ByteArray × Int)
 | 0, _, _, _ => none
 | k + 1, x0, x5, x6 => if x6 < 5 then (if 0 ≤ x6 then (if x6 < (x0.size : Int) then (if (bt x0 x6) ≥ 65 then (wicketref11_Basic.j2 k x0 x5 x6 (bt x0 x6) (decide ((bt x0 x6) ≤ 90))) else (wicketref11_Basic.j2 k x0 x5 x6 (bt x0 x6) false)) else (none)) else (none)) else (wicketref11_Basic.l1 k x0 5)
def wicketref11_Basic.j2 : Nat → ByteArray → ByteArray → Int → Int → Bool → Option (ByteArray × ByteArray × Int)
 | 0, _, _, _, _, _ => none
 | k + 1, x0, x5, x6, x7, x38 => if x38 = true then (if 0 ≤ x6 then (if x6 < (x5.size : Int) then (if ((((x7 - 65) % 256) + 97) % 256) = (bt x5 x6) then (wicketref11_Basic.l0 k x0 x5 (wrap64 (x6 + 1))) else (some ((⟨#[]⟩ : ByteArray), (⟨#[]⟩ : ByteArray), 113))) else (none)) else (none)) else (if 0 ≤ x6 then (if x6 < (x5.size : Int) then (if x7 = (bt x5 x6) then (wicketref11_Basic.l0 k x0 x5 (wrap64 (x6 + 1))) else (some ((⟨#[]⟩ : ByteArray), (⟨#[]⟩ : ByteArray), 113))) else (none)) else (none))
def wicketref11_Basic.j4 : Nat → ByteArray → Int → Option (ByteArray × ByteArray × Int)
 | 0, _, _ => none
 | k + 1, x0, x8 => if 0 ≤ x8 then (if x8 ≤ (x0.size : Int) then ((wicketref11_decoded.f k (x0.extract (x8 : Int).toNat x0.size)).bind fun bt444 => (if x8 = 5 then (wicketref11_Basic.j5 k bt444.1 true) else (wicketref11_Basic.j5 k bt444.1 (!bt444.2)))) else (none)) else (none)
def wicketref11_Basic.j5 : Nat → ByteArray → Bool → Option (ByteArray × ByteArray × Int)
 | 0, _, _ => none
 | k + 1, x9, x71 => if x71 = true then (some ((⟨#[]⟩ : ByteArray), (⟨#[]⟩ : ByteArray), 113)) else (wicketref11_Basic.l2 k x9 0)
def wicketref11_Basic.j7 : Nat → ByteArray → Int → Option (ByteArray × ByteArray × Int)
 | 0, _, _ => none
 | k + 1, x9, x11 => if x11 = (x9.size : Int) then (some ((⟨#[]⟩ : ByteArray), (⟨#[]⟩ : ByteArray), 113)) else (if 0 ≤ x11 then (if x11 ≤ (x9.size : Int) then ((wicketref03_Unescape.f k (x9.extract 0 (x11 : Int).toNat)).bind fun bt446 => (if 0 ≤ (wrap64 (x11 + 1)) then (if (wrap64 (x11 + 1)) ≤ (x9.size : Int) then ((wicketref03_Unescape.f k (x9.extract ((wrap64 (x11 + 1)) : Int).toNat x9.size)).bind fun bt449 => (if bt446.2.1 = 0 then (if bt449.2.1 = 0 then (some (bt446.1, bt449.1, 0)) else (some ((⟨#[]⟩ : ByteArray), (⟨#[]⟩ : ByteArray), 113))) else (some ((⟨#[]⟩ : ByteArray), (⟨#[]⟩ : ByteArray), 113)))) else (none)) else (none))) else (none)) else (none))
def wicketref11_Basic.l2 : Nat → ByteArray → Int → Option (ByteArray × ByteArray × Int)
 | 0, _, _ => none
 | k + 1, x9, x11 => if x11 < (x9.size : Int) then (if 0 ≤ x11 then (if (bt x9 x11) = 58 then (wicketref11_Basic.j7 k x9 x11) else (wicketref11_Basic.l2 k x9 (wrap64 (x11 + 1)))) else (none)) else (wicketref11_Basic.j7 k x9 x11)
def wicketref11_Basic.l1 : Nat → ByteArray → Int → Option (ByteArray × ByteArray × Int)
 | 0, _, _ => none
 | k + 1, x0, x8 => if x8 < (x0.size : Int) then (if 0 ≤ x8 then (if (bt x0 x8) = 32 then (wicketref11_Basic.l1 k x0 (wrap64 (x8 + 1))) else (wicketref11_Basic.j4 k x0 x8)) else (none)) else (wicketref11_Basic.j4 k x0 x8)
end
def wicketref11_Basic.f (k : Nat) (a0 : ByteArray) : Option (ByteArray × ByteArray × Int) := if (a0.size : Int) > 1024 then (wicketref11_Basic.j0 k a0 (⟨#[98, 97, 115, 105, 99]⟩ : ByteArray) true) else (wicketref11_Basic.j0 k a0 (⟨#[98, 97, 115, 105, 99]⟩ : ByteArray) (decide ((a0.size : Int) < 6)))
set_option maxHeartbeats 8000000 in
set_option maxRecDepth 100000 in
theorem wicketref11_Basic.calls (k : Nat) (a0 : ByteArray) (r1 : ByteArray) (r2 : ByteArray) (r3 : Int) (w : World) (h : wicketref11_Basic.f k a0 = some (r1, r2, r3)) :
 Calls Tryz.prog 33 #[.string a0] w fun e w' => e = .returned (.tuple #[.string r1, .string r2, .int .i64 r3]) ∧ Below w.heap.size w w' := by
 have HB := Aside0.mk (Below.refl w.heap.size w)
 have H : (if (a0.size : Int) > 1024 then (wicketref11_Basic.j0 k a0 (⟨#[98, 97, 115, 105, 99]⟩ : ByteArray) true) else (wicketref11_Basic.j0 k a0 (⟨#[98, 97, 115, 105, 99]⟩ : ByteArray) (decide ((a0.size : Int) < 6)))) = some (r1, r2, r3) := h
 clear h
 have HC2 := Aside0.mk H
 clear H
 go_enter Tryz.func33, Tryz.ntmps33
 go_upto_region 2 with (fail)
 go_cut [25] (fun v25 wc => ∃ (kq : Nat) (x25_1 : Bool), v25 = .bool x25_1 ∧ Aside0 (wicketref11_Basic.j0 kq a0 (⟨#[98, 97, 115, 105, 99]⟩ : ByteArray) x25_1 = some (r1, r2, r3)) ∧ Aside0 (kq ≤ k) ∧ Aside0 (Below w.heap.size w wc))
 case first =>
  have H := HC2.out
  clear HC2
  by_cases c3 : (a0.size : Int) > 1024
  · rw [if_pos c3] at H
    have c3b0 : decide (1024 < (a0.size : Int)) = true := decide_eq_true c3
    have c3b1 : decide (1024 < a0.size) = true := decide_eq_true (by omega)
    clear c3
    have H' := Aside0.mk H
    clear H
    go_wp2
    go_meet
    case rel => exact ⟨_, (true), rfl, H', ⟨by (omega)⟩, ⟨HB.out⟩⟩
  · rw [if_neg c3] at H
    have c3b0 : decide (1024 < (a0.size : Int)) = false := decide_eq_false c3
    have c3b1 : decide (1024 < a0.size) = false := decide_eq_false (by omega)
    clear c3
    have H' := Aside0.mk H
    clear H
    go_wp2
    go_meet
    case rel => exact ⟨_, (decide ((a0.size : Int) < 6)), rfl, H', ⟨by (omega)⟩, ⟨HB.out⟩⟩
 case rest =>
  clear HC2
  obtain ⟨kq, x25_1, rfl, HA, HJ1, HB⟩ := hcut
  cases kq with
  | zero => exact absurd HA.out (by simp [wicketref11_Basic.j0])
  | succ kj1 =>
   have H := HA.out
   clear HA
   simp only [wicketref11_Basic.j0] at H
   by_cases c4 : x25_1 = true
   · subst c4
     have H1 : (some ((⟨#[]⟩ : ByteArray), (⟨#[]⟩ : ByteArray), 113)) = some (r1, r2, r3) := by rw [if_pos rfl] at H; exact H
     clear H
     have H := H1
     clear H1
     simp only [Option.some.injEq, Prod.mk.injEq] at H
     obtain ⟨rfl, rfl, rfl⟩ := H
     go_wp2
     go_ret3
     exact ⟨by (rfl), by (with_reducible exact HB.out)⟩
   · replace c4 := Bool.eq_false_iff.mpr c4
     subst c4
     have H1 : (wicketref11_Basic.l0 kj1 a0 (⟨#[98, 97, 115, 105, 99]⟩ : ByteArray) 0) = some (r1, r2, r3) := by rw [if_neg (show ¬ (false = true) by decide)] at H; exact H
     clear H
     have H := H1
     clear H1
     have H' := Aside0.mk H
     clear H
     go_wp2
     go_loopg [6] kj1 (fun kq v6 w' => ∃ (x6_2 : Int), v6 = .int .i64 x6_2 ∧ Aside0 (wicketref11_Basic.l0 kq a0 (⟨#[98, 97, 115, 105, 99]⟩ : ByteArray) x6_2 = some (r1, r2, r3)) ∧ Aside0 (kq ≤ kj1) ∧ Aside0 (Below w.heap.size w w'))
     case atStart => exact ⟨(0), rfl, H', ⟨Nat.le_refl _⟩, ⟨HB.out⟩⟩
     case round =>
      clear H'
      obtain ⟨x6_2, rfl, HA, HK2, HB⟩ := hrel
      cases gk with
      | zero => exact absurd HA.out (by simp [wicketref11_Basic.l0])
      | succ k2 =>
       have H := HA.out
       clear HA
       simp only [wicketref11_Basic.l0] at H
       by_cases c5 : x6_2 < 5
       · rw [if_pos c5] at H
         have c5b0 : decide (x6_2 < 5) = true := decide_eq_true c5
         clear c5
         by_cases c6 : 0 ≤ x6_2
         · rw [if_pos c6] at H
           have c6b0 : decide (0 ≤ x6_2) = true := decide_eq_true c6
           clear c6
           by_cases c7 : x6_2 < (a0.size : Int)
           · rw [if_pos c7] at H
             have c7b0 : decide (x6_2 < (a0.size : Int)) = true := decide_eq_true c7
             clear c7
             have HC9 := Aside0.mk H
             clear H
             have p8 : 0 ≤ (x6_2 : Int) := of_decide_eq_true (by assumption)
             have q8 : x6_2 < (a0.size : Int) := of_decide_eq_true (by assumption)
             have hx8 := bt_at a0 x6_2
             replace p8 := eq_true p8
             replace q8 := eq_true q8
             go_upto_region 8 with (fail)
             go_cut [38] (fun v38 wc => ∃ (kq : Nat) (x38_8 : Bool), v38 = .bool x38_8 ∧ Aside0 (wicketref11_Basic.j2 kq a0 (⟨#[98, 97, 115, 105, 99]⟩ : ByteArray) x6_2 (bt a0 x6_2) x38_8 = some (r1, r2, r3)) ∧ Aside0 (kq ≤ k2) ∧ Aside0 (Below w.heap.size w wc))
             case first =>
              have H := HC9.out
              clear HC9
              by_cases c10 : (bt a0 x6_2) ≥ 65
              · rw [if_pos c10] at H
                have c10b0 : decide (65 ≤ (bt a0 x6_2)) = true := decide_eq_true c10
                clear c10
                have H' := Aside0.mk H
                clear H
                go_wp2
                go_meet
                case rel => exact ⟨_, (decide ((bt a0 x6_2) ≤ 90)), rfl, H', ⟨by have := HJ1.out; have := HK2.out; (omega)⟩, ⟨HB.out⟩⟩
              · rw [if_neg c10] at H
                have c10b0 : decide (65 ≤ (bt a0 x6_2)) = false := decide_eq_false c10
                clear c10
                have H' := Aside0.mk H
                clear H
                go_wp2
                go_meet
                case rel => exact ⟨_, (false), rfl, H', ⟨by have := HJ1.out; have := HK2.out; (omega)⟩, ⟨HB.out⟩⟩
             case rest =>
              clear HC9 c5b0 c6b0 c7b0 p8 q8 hx8
              obtain ⟨kq, x38_8, rfl, HA, HJ8, HB⟩ := hcut
              cases kq with
              | zero => exact absurd HA.out (by simp [wicketref11_Basic.j2])
              | succ kj8 =>
               have H := HA.out
               clear HA
               simp only [wicketref11_Basic.j2] at H
               by_cases c11 : x38_8 = true
               · subst c11
                 have H1 : (if 0 ≤ x6_2 then (if x6_2 < ((⟨#[98, 97, 115, 105, 99]⟩ : ByteArray).size : Int) then (if (((((bt a0 x6_2) - 65) % 256) + 97) % 256) = (bt (⟨#[98, 97, 115, 105, 99]⟩ : ByteArray) x6_2) then (wicketref11_Basic.l0 kj8 a0 (⟨#[98, 97, 115, 105, 99]⟩ : ByteArray) (wrap64 (x6_2 + 1))) else (some ((⟨#[]⟩ : ByteArray), (⟨#[]⟩ : ByteArray), 113))) else (none)) else (none)) = some (r1, r2, r3) := by rw [if_pos rfl] at H; exact H
                 clear H
                 have H := H1
                 clear H1
                 by_cases c12 : 0 ≤ x6_2
                 · rw [if_pos c12] at H
                   have c12b0 : decide (0 ≤ x6_2) = true := decide_eq_true c12
                   clear c12
                   by_cases c13 : x6_2 < ((⟨#[98, 97, 115, 105, 99]⟩ : ByteArray).size : Int)
                   · rw [if_pos c13] at H
                     have c13b0 : decide (x6_2 < ((⟨#[98, 97, 115, 105, 99]⟩ : ByteArray).size : Int)) = true := decide_eq_true c13
                     clear c13
                     by_cases c15 : (((((bt a0 x6_2) - 65) % 256) + 97) % 256) = (bt (⟨#[98, 97, 115, 105, 99]⟩ : ByteArray) x6_2)
                     · rw [if_pos c15] at H
                       have c15b0 : ((((((bt a0 x6_2) - 65) % 256) + 97) % 256) == (bt (⟨#[98, 97, 115, 105, 99]⟩ : ByteArray) x6_2)) = true := beq_iff_eq.mpr c15
                       have c15b1 : ((((((bt a0 x6_2) - 65) % 256) + 97) % 256) != (bt (⟨#[98, 97, 115, 105, 99]⟩ : ByteArray) x6_2)) = false := bne_eq_false_iff_eq.mpr c15
                       clear c15
                       have H' := Aside0.mk H
                       clear H
                       have p14 : 0 ≤ (x6_2 : Int) := of_decide_eq_true (by assumption)
                       have q14 : x6_2 < (5 : Int) := of_decide_eq_true (by assumption)
                       have hx14 := bt_at (⟨#[98, 97, 115, 105, 99]⟩ : ByteArray) x6_2
                       replace p14 := eq_true p14
                       replace q14 := eq_true q14
                       go_wp2
                       go_roundg kj8
                       case measure => have := HJ1.out; have := HK2.out; have := HJ8.out; omega
                       case rel => exact ⟨(wrap64 (x6_2 + 1)), rfl, H', ⟨by have := HJ1.out; have := HK2.out; have := HJ8.out; omega⟩, ⟨HB.out⟩⟩
                     · rw [if_neg c15] at H
                       have c15b0 : ((((((bt a0 x6_2) - 65) % 256) + 97) % 256) == (bt (⟨#[98, 97, 115, 105, 99]⟩ : ByteArray) x6_2)) = false := beq_eq_false_iff_ne.mpr c15
                       have c15b1 : ((((((bt a0 x6_2) - 65) % 256) + 97) % 256) != (bt (⟨#[98, 97, 115, 105, 99]⟩ : ByteArray) x6_2)) = true := bne_iff_ne.mpr c15
                       simp only [Option.some.injEq, Prod.mk.injEq] at H
                       obtain ⟨rfl, rfl, rfl⟩ := H
                       have p14 : 0 ≤ (x6_2 : Int) := of_decide_eq_true (by assumption)
                       have q14 : x6_2 < (5 : Int) := of_decide_eq_true (by assumption)
                       have hx14 := bt_at (⟨#[98, 97, 115, 105, 99]⟩ : ByteArray) x6_2
                       replace p14 := eq_true p14
                       replace q14 := eq_true q14
                       go_wp2
                       go_ret3
                       exact ⟨by (rfl), by (with_reducible exact HB.out)⟩
                   · rw [if_neg c13] at H
                     exact absurd H (by simp)
                 · rw [if_neg c12] at H
                   exact absurd H (by simp)
               · replace c11 := Bool.eq_false_iff.mpr c11
                 subst c11
                 have H1 : (if 0 ≤ x6_2 then (if x6_2 < ((⟨#[98, 97, 115, 105, 99]⟩ : ByteArray).size : Int) then (if (bt a0 x6_2) = (bt (⟨#[98, 97, 115, 105, 99]⟩ : ByteArray) x6_2) then (wicketref11_Basic.l0 kj8 a0 (⟨#[98, 97, 115, 105, 99]⟩ : ByteArray) (wrap64 (x6_2 + 1))) else (some ((⟨#[]⟩ : ByteArray), (⟨#[]⟩ : ByteArray), 113))) else (none)) else (none)) = some (r1, r2, r3) := by rw [if_neg (show ¬ (false = true) by decide)] at H; exact H
                 clear H
                 have H := H1
                 clear H1
                 by_cases c16 : 0 ≤ x6_2
                 · rw [if_pos c16] at H
                   have c16b0 : decide (0 ≤ x6_2) = true := decide_eq_true c16
                   clear c16
                   by_cases c17 : x6_2 < ((⟨#[98, 97, 115, 105, 99]⟩ : ByteArray).size : Int)
                   · rw [if_pos c17] at H
                     have c17b0 : decide (x6_2 < ((⟨#[98, 97, 115, 105, 99]⟩ : ByteArray).size : Int)) = true := decide_eq_true c17
                     clear c17
                     by_cases c19 : (bt a0 x6_2) = (bt (⟨#[98, 97, 115, 105, 99]⟩ : ByteArray) x6_2)
                     · rw [if_pos c19] at H
                       have c19b0 : ((bt a0 x6_2) == (bt (⟨#[98, 97, 115, 105, 99]⟩ : ByteArray) x6_2)) = true := beq_iff_eq.mpr c19
                       have c19b1 : ((bt a0 x6_2) != (bt (⟨#[98, 97, 115, 105, 99]⟩ : ByteArray) x6_2)) = false := bne_eq_false_iff_eq.mpr c19
                       clear c19
                       have H' := Aside0.mk H
                       clear H
                       have p18 : 0 ≤ (x6_2 : Int) := of_decide_eq_true (by assumption)
                       have q18 : x6_2 < (5 : Int) := of_decide_eq_true (by assumption)
                       have hx18 := bt_at (⟨#[98, 97, 115, 105, 99]⟩ : ByteArray) x6_2
                       replace p18 := eq_true p18
                       replace q18 := eq_true q18
                       go_wp2
                       go_roundg kj8
                       case measure => have := HJ1.out; have := HK2.out; have := HJ8.out; omega
                       case rel => exact ⟨(wrap64 (x6_2 + 1)), rfl, H', ⟨by have := HJ1.out; have := HK2.out; have := HJ8.out; omega⟩, ⟨HB.out⟩⟩
                     · rw [if_neg c19] at H
                       have c19b0 : ((bt a0 x6_2) == (bt (⟨#[98, 97, 115, 105, 99]⟩ : ByteArray) x6_2)) = false := beq_eq_false_iff_ne.mpr c19
                       have c19b1 : ((bt a0 x6_2) != (bt (⟨#[98, 97, 115, 105, 99]⟩ : ByteArray) x6_2)) = true := bne_iff_ne.mpr c19
                       simp only [Option.some.injEq, Prod.mk.injEq] at H
                       obtain ⟨rfl, rfl, rfl⟩ := H
                       have p18 : 0 ≤ (x6_2 : Int) := of_decide_eq_true (by assumption)
                       have q18 : x6_2 < (5 : Int) := of_decide_eq_true (by assumption)
                       have hx18 := bt_at (⟨#[98, 97, 115, 105, 99]⟩ : ByteArray) x6_2
                       replace p18 := eq_true p18
                       replace q18 := eq_true q18
                       go_wp2
                       go_ret3
                       exact ⟨by (rfl), by (with_reducible exact HB.out)⟩
                   · rw [if_neg c17] at H
                     exact absurd H (by simp)
                 · rw [if_neg c16] at H
                   exact absurd H (by simp)
           · rw [if_neg c7] at H
             exact absurd H (by simp)
         · rw [if_neg c6] at H
           exact absurd H (by simp)
       · rw [if_neg c5] at H
         have c5b0 : decide (x6_2 < 5) = false := decide_eq_false c5
         clear c5
         have HC20 := Aside0.mk H
         clear H
         go_upto_block 2 with (fail)
         go_cut [8] (fun v8 wc => ∃ (kq : Nat) (x8_19 : Int), v8 = .int .i64 x8_19 ∧ Aside0 (wicketref11_Basic.j4 kq a0 x8_19 = some (r1, r2, r3)) ∧ Aside0 (kq ≤ k2) ∧ Aside0 (Below w.heap.size w wc))
         case first =>
          have H := HC20.out
          clear HC20
          have H' := Aside0.mk H
          clear H
          go_wp2
          go_loopg [8] k2 (fun kq v8 w' => ∃ (x8_3 : Int), v8 = .int .i64 x8_3 ∧ Aside0 (wicketref11_Basic.l1 kq a0 x8_3 = some (r1, r2, r3)) ∧ Aside0 (kq ≤ k2) ∧ Aside0 (Below w.heap.size w w'))
          case atStart => exact ⟨(5), rfl, H', ⟨Nat.le_refl _⟩, ⟨HB.out⟩⟩
          case round =>
           clear H' c5b0
           obtain ⟨x8_3, rfl, HA, HK3, HB⟩ := hrel
           cases gk with
           | zero => exact absurd HA.out (by simp [wicketref11_Basic.l1])
           | succ k3 =>
            have H := HA.out
            clear HA
            simp only [wicketref11_Basic.l1] at H
            by_cases c21 : x8_3 < (a0.size : Int)
            · rw [if_pos c21] at H
              have c21b0 : decide (x8_3 < (a0.size : Int)) = true := decide_eq_true c21
              clear c21
              by_cases c22 : 0 ≤ x8_3
              · rw [if_pos c22] at H
                have c22b0 : decide (0 ≤ x8_3) = true := decide_eq_true c22
                clear c22
                by_cases c24 : (bt a0 x8_3) = 32
                · rw [if_pos c24] at H
                  have c24b0 : ((bt a0 x8_3) == 32) = true := beq_iff_eq.mpr c24
                  have c24b1 : ((bt a0 x8_3) != 32) = false := bne_eq_false_iff_eq.mpr c24
                  clear c24
                  have H' := Aside0.mk H
                  clear H
                  have p23 : 0 ≤ (x8_3 : Int) := of_decide_eq_true (by assumption)
                  have q23 : x8_3 < (a0.size : Int) := of_decide_eq_true (by assumption)
                  have hx23 := bt_at a0 x8_3
                  replace p23 := eq_true p23
                  replace q23 := eq_true q23
                  go_wp2
                  go_roundg k3
                  case measure => have := HJ1.out; have := HK2.out; have := HK3.out; omega
                  case rel => exact ⟨(wrap64 (x8_3 + 1)), rfl, H', ⟨by have := HJ1.out; have := HK2.out; have := HK3.out; omega⟩, ⟨HB.out⟩⟩
                · rw [if_neg c24] at H
                  have c24b0 : ((bt a0 x8_3) == 32) = false := beq_eq_false_iff_ne.mpr c24
                  have c24b1 : ((bt a0 x8_3) != 32) = true := bne_iff_ne.mpr c24
                  have H' := Aside0.mk H
                  clear H
                  have p23 : 0 ≤ (x8_3 : Int) := of_decide_eq_true (by assumption)
                  have q23 : x8_3 < (a0.size : Int) := of_decide_eq_true (by assumption)
                  have hx23 := bt_at a0 x8_3
                  replace p23 := eq_true p23
                  replace q23 := eq_true q23
                  go_wp2
                  go_meet
                  case rel => exact ⟨_, (x8_3), rfl, H', ⟨by have := HJ1.out; have := HK2.out; have := HK3.out; (omega)⟩, ⟨HB.out⟩⟩
              · rw [if_neg c22] at H
                exact absurd H (by simp)
            · rw [if_neg c21] at H
              have c21b0 : decide (x8_3 < (a0.size : Int)) = false := decide_eq_false c21
              clear c21
              have H' := Aside0.mk H
              clear H
              go_wp2
              go_meet
              case rel => exact ⟨_, (x8_3), rfl, H', ⟨by have := HJ1.out; have := HK2.out; have := HK3.out; (omega)⟩, ⟨HB.out⟩⟩
         case rest =>
          clear HC20 c5b0
          obtain ⟨kq, x8_19, rfl, HA, HJ19, HB⟩ := hcut
          cases kq with
          | zero => exact absurd HA.out (by simp [wicketref11_Basic.j4])
          | succ kj19 =>
           have H := HA.out
           clear HA
           simp only [wicketref11_Basic.j4] at H
           by_cases c25 : 0 ≤ x8_19
           · rw [if_pos c25] at H
             have c25b0 := eq_true c25
             have c25b1 : decide (0 ≤ x8_19) = true := decide_eq_true c25
             clear c25
             by_cases c26 : x8_19 ≤ (a0.size : Int)
             · rw [if_pos c26] at H
               have c26b0 := eq_true c26
               have c26b1 : decide (x8_19 ≤ (a0.size : Int)) = true := decide_eq_true c26
               clear c26
               replace H := Option.bind_eq_some_iff.mp H
               obtain ⟨⟨t444, t445⟩, A270, H⟩ := H
               replace H : (if x8_19 = 5 then (wicketref11_Basic.j5 kj19 t444 true) else (wicketref11_Basic.j5 kj19 t444 (!t445))) = some (r1, r2, r3) := H
               have A27 := Aside0.mk A270
               clear A270
               have HC28 := Aside0.mk H
               clear H
               go_upto_region 16 with (first | ((with_reducible refine gate_callee (f := 67) rfl ?_); refine goesL_ (some 63) rfl rfl Tryz.func67 (by kernel_rfl) rfl #[.string (a0.extract (x8_19 : Int).toNat a0.size)] rfl (by ((try simp only [List.map_toArray, List.map_cons, List.map_nil]); (rfl))) ?_; (with_reducible refine (wicketref11_decoded.calls kj19 (a0.extract (x8_19 : Int).toNat a0.size) t444 t445 _ A27.out).mono ?_); rintro e w29 ⟨rfl, hb⟩; refine ⟨_, rfl, ?_⟩; replace HB := Aside0.mk (below_step HB.out hb); clear hb))
               go_cut [71] (fun v71 wc => ∃ (kq : Nat) (x71_27 : Bool), v71 = .bool x71_27 ∧ Aside0 (wicketref11_Basic.j5 kq t444 x71_27 = some (r1, r2, r3)) ∧ Aside0 (kq ≤ kj19) ∧ Aside0 (Below w.heap.size w wc))
               case first =>
                have H := HC28.out
                clear HC28
                by_cases c30 : x8_19 = 5
                · rw [if_pos c30] at H
                  have c30b0 : (x8_19 == 5) = true := beq_iff_eq.mpr c30
                  have c30b1 : (x8_19 != 5) = false := bne_eq_false_iff_eq.mpr c30
                  clear c30
                  have H' := Aside0.mk H
                  clear H
                  go_wp2
                  go_meet
                  case rel => exact ⟨_, (true), rfl, H', ⟨by have := HJ1.out; have := HK2.out; have := HJ19.out; (omega)⟩, ⟨HB.out⟩⟩
                · rw [if_neg c30] at H
                  have c30b0 : (x8_19 == 5) = false := beq_eq_false_iff_ne.mpr c30
                  have c30b1 : (x8_19 != 5) = true := bne_iff_ne.mpr c30
                  have H' := Aside0.mk H
                  clear H
                  go_wp2
                  go_meet
                  case rel => exact ⟨_, (!t445), rfl, H', ⟨by have := HJ1.out; have := HK2.out; have := HJ19.out; (omega)⟩, ⟨HB.out⟩⟩
               case rest =>
                clear HC28 c25b0 c25b1 c26b0 c26b1
                obtain ⟨kq, x71_27, rfl, HA, HJ27, HB⟩ := hcut
                cases kq with
                | zero => exact absurd HA.out (by simp [wicketref11_Basic.j5])
                | succ kj27 =>
                 have H := HA.out
                 clear HA
                 simp only [wicketref11_Basic.j5] at H
                 by_cases c31 : x71_27 = true
                 · subst c31
                   have H1 : (some ((⟨#[]⟩ : ByteArray), (⟨#[]⟩ : ByteArray), 113)) = some (r1, r2, r3) := by rw [if_pos rfl] at H; exact H
                   clear H
                   have H := H1
                   clear H1
                   simp only [Option.some.injEq, Prod.mk.injEq] at H
                   obtain ⟨rfl, rfl, rfl⟩ := H
                   go_wp2
                   go_ret3
                   exact ⟨by (rfl), by (with_reducible exact HB.out)⟩
                 · replace c31 := Bool.eq_false_iff.mpr c31
                   subst c31
                   have H1 : (wicketref11_Basic.l2 kj27 t444 0) = some (r1, r2, r3) := by rw [if_neg (show ¬ (false = true) by decide)] at H; exact H
                   clear H
                   have H := H1
                   clear H1
                   have HC32 := Aside0.mk H
                   clear H
                   go_upto_block 4 with (fail)
                   go_cut [11] (fun v11 wc => ∃ (kq : Nat) (x11_31 : Int), v11 = .int .i64 x11_31 ∧ Aside0 (wicketref11_Basic.j7 kq t444 x11_31 = some (r1, r2, r3)) ∧ Aside0 (kq ≤ kj27) ∧ Aside0 (Below w.heap.size w wc))
                   case first =>
                    have H := HC32.out
                    clear HC32
                    have H' := Aside0.mk H
                    clear H
                    go_wp2
                    go_loopg [11] kj27 (fun kq v11 w' => ∃ (x11_5 : Int), v11 = .int .i64 x11_5 ∧ Aside0 (wicketref11_Basic.l2 kq t444 x11_5 = some (r1, r2, r3)) ∧ Aside0 (kq ≤ kj27) ∧ Aside0 (Below w.heap.size w w'))
                    case atStart => exact ⟨(0), rfl, H', ⟨Nat.le_refl _⟩, ⟨HB.out⟩⟩
                    case round =>
                     clear H'
                     obtain ⟨x11_5, rfl, HA, HK5, HB⟩ := hrel
                     cases gk with
                     | zero => exact absurd HA.out (by simp [wicketref11_Basic.l2])
                     | succ k5 =>
                      have H := HA.out
                      clear HA
                      simp only [wicketref11_Basic.l2] at H
                      by_cases c33 : x11_5 < (t444.size : Int)
                      · rw [if_pos c33] at H
                        have c33b0 : decide (x11_5 < (t444.size : Int)) = true := decide_eq_true c33
                        clear c33
                        by_cases c34 : 0 ≤ x11_5
                        · rw [if_pos c34] at H
                          have c34b0 : decide (0 ≤ x11_5) = true := decide_eq_true c34
                          clear c34
                          by_cases c36 : (bt t444 x11_5) = 58
                          · rw [if_pos c36] at H
                            have c36b0 : ((bt t444 x11_5) == 58) = true := beq_iff_eq.mpr c36
                            have c36b1 : ((bt t444 x11_5) != 58) = false := bne_eq_false_iff_eq.mpr c36
                            clear c36
                            have H' := Aside0.mk H
                            clear H
                            have p35 : 0 ≤ (x11_5 : Int) := of_decide_eq_true (by assumption)
                            have q35 : x11_5 < (t444.size : Int) := of_decide_eq_true (by assumption)
                            have hx35 := bt_at t444 x11_5
                            replace p35 := eq_true p35
                            replace q35 := eq_true q35
                            go_wp2
                            go_meet
                            case rel => exact ⟨_, (x11_5), rfl, H', ⟨by have := HJ1.out; have := HK2.out; have := HJ19.out; have := HJ27.out; have := HK5.out; (omega)⟩, ⟨HB.out⟩⟩
                          · rw [if_neg c36] at H
                            have c36b0 : ((bt t444 x11_5) == 58) = false := beq_eq_false_iff_ne.mpr c36
                            have c36b1 : ((bt t444 x11_5) != 58) = true := bne_iff_ne.mpr c36
                            have H' := Aside0.mk H
                            clear H
                            have p35 : 0 ≤ (x11_5 : Int) := of_decide_eq_true (by assumption)
                            have q35 : x11_5 < (t444.size : Int) := of_decide_eq_true (by assumption)
                            have hx35 := bt_at t444 x11_5
                            replace p35 := eq_true p35
                            replace q35 := eq_true q35
                            go_wp2
                            go_roundg k5
                            case measure => have := HJ1.out; have := HK2.out; have := HJ19.out; have := HJ27.out; have := HK5.out; omega
                            case rel => exact ⟨(wrap64 (x11_5 + 1)), rfl, H', ⟨by have := HJ1.out; have := HK2.out; have := HJ19.out; have := HJ27.out; have := HK5.out; omega⟩, ⟨HB.out⟩⟩
                        · rw [if_neg c34] at H
                          exact absurd H (by simp)
                      · rw [if_neg c33] at H
                        have c33b0 : decide (x11_5 < (t444.size : Int)) = false := decide_eq_false c33
                        clear c33
                        have H' := Aside0.mk H
                        clear H
                        go_wp2
                        go_meet
                        case rel => exact ⟨_, (x11_5), rfl, H', ⟨by have := HJ1.out; have := HK2.out; have := HJ19.out; have := HJ27.out; have := HK5.out; (omega)⟩, ⟨HB.out⟩⟩
                   case rest =>
                    clear HC32
                    obtain ⟨kq, x11_31, rfl, HA, HJ31, HB⟩ := hcut
                    cases kq with
                    | zero => exact absurd HA.out (by simp [wicketref11_Basic.j7])
                    | succ kj31 =>
                     have H := HA.out
                     clear HA
                     simp only [wicketref11_Basic.j7] at H
                     by_cases c37 : x11_31 = (t444.size : Int)
                     · rw [if_pos c37] at H
                       have c37b0 : (x11_31 == (t444.size : Int)) = true := beq_iff_eq.mpr c37
                       have c37b1 : (x11_31 != (t444.size : Int)) = false := bne_eq_false_iff_eq.mpr c37
                       clear c37
                       simp only [Option.some.injEq, Prod.mk.injEq] at H
                       obtain ⟨rfl, rfl, rfl⟩ := H
                       go_wp2
                       go_ret3
                       exact ⟨by (rfl), by (with_reducible exact HB.out)⟩
                     · rw [if_neg c37] at H
                       have c37b0 : (x11_31 == (t444.size : Int)) = false := beq_eq_false_iff_ne.mpr c37
                       have c37b1 : (x11_31 != (t444.size : Int)) = true := bne_iff_ne.mpr c37
                       by_cases c38 : 0 ≤ x11_31
                       · rw [if_pos c38] at H
                         have c38b0 := eq_true c38
                         have c38b1 : decide (0 ≤ x11_31) = true := decide_eq_true c38
                         clear c38
                         by_cases c39 : x11_31 ≤ (t444.size : Int)
                         · rw [if_pos c39] at H
                           have c39b0 := eq_true c39
                           have c39b1 : decide (x11_31 ≤ (t444.size : Int)) = true := decide_eq_true c39
                           clear c39
                           replace H := Option.bind_eq_some_iff.mp H
                           obtain ⟨⟨t446, t447, t448⟩, A400, H⟩ := H
                           replace H : (if 0 ≤ (wrap64 (x11_31 + 1)) then (if (wrap64 (x11_31 + 1)) ≤ (t444.size : Int) then ((wicketref03_Unescape.f kj31 (t444.extract ((wrap64 (x11_31 + 1)) : Int).toNat t444.size)).bind fun bt449 => (if t447 = 0 then (if bt449.2.1 = 0 then (some (t446, bt449.1, 0)) else (some ((⟨#[]⟩ : ByteArray), (⟨#[]⟩ : ByteArray), 113))) else (some ((⟨#[]⟩ : ByteArray), (⟨#[]⟩ : ByteArray), 113)))) else (none)) else (none)) = some (r1, r2, r3) := H
                           have A40 := Aside0.mk A400
                           clear A400
                           obtain ⟨ji41, hji41⟩ : ∃ j_ : Int, (wrap64 (x11_31 + 1)) = j_ := ⟨_, rfl⟩
                           replace H : (if 0 ≤ (ji41) then (if (ji41) ≤ (t444.size : Int) then ((wicketref03_Unescape.f kj31 (t444.extract ((ji41) : Int).toNat t444.size)).bind fun bt449 => (if t447 = 0 then (if bt449.2.1 = 0 then (some (t446, bt449.1, 0)) else (some ((⟨#[]⟩ : ByteArray), (⟨#[]⟩ : ByteArray), 113))) else (some ((⟨#[]⟩ : ByteArray), (⟨#[]⟩ : ByteArray), 113)))) else (none)) else (none)) = some (r1, r2, r3) := by (rw [hji41] at H; exact H)
                           have hji41w : (IntKind.i64.wrap (x11_31 + 1)) = ji41 := (i64_w _).trans hji41
                           by_cases c42 : 0 ≤ (ji41)
                           · rw [if_pos c42] at H
                             have c42b0 := eq_true c42
                             have c42b1 : decide (0 ≤ (ji41)) = true := decide_eq_true c42
                             clear c42
                             by_cases c43 : (ji41) ≤ (t444.size : Int)
                             · rw [if_pos c43] at H
                               have c43b0 := eq_true c43
                               have c43b1 : decide ((ji41) ≤ (t444.size : Int)) = true := decide_eq_true c43
                               clear c43
                               replace H := Option.bind_eq_some_iff.mp H
                               obtain ⟨⟨t449, t450, t451⟩, A440, H⟩ := H
                               replace H : (if t447 = 0 then (if t450 = 0 then (some (t446, t449, 0)) else (some ((⟨#[]⟩ : ByteArray), (⟨#[]⟩ : ByteArray), 113))) else (some ((⟨#[]⟩ : ByteArray), (⟨#[]⟩ : ByteArray), 113))) = some (r1, r2, r3) := H
                               have A44 := Aside0.mk A440
                               clear A440
                               by_cases c45 : t447 = 0
                               · rw [if_pos c45] at H
                                 have c45b0 : (t447 == 0) = true := beq_iff_eq.mpr c45
                                 have c45b1 : (t447 != 0) = false := bne_eq_false_iff_eq.mpr c45
                                 clear c45
                                 by_cases c46 : t450 = 0
                                 · rw [if_pos c46] at H
                                   have c46b0 : (t450 == 0) = true := beq_iff_eq.mpr c46
                                   have c46b1 : (t450 != 0) = false := bne_eq_false_iff_eq.mpr c46
                                   clear c46
                                   simp only [Option.some.injEq, Prod.mk.injEq] at H
                                   obtain ⟨rfl, rfl, rfl⟩ := H
                                   go_wp2_with (first | ((with_reducible refine gate_callee (f := 68) rfl ?_); refine goesL_ (some 92) rfl rfl Tryz.func68 (by kernel_rfl) rfl #[.string (t444.extract 0 (x11_31 : Int).toNat)] rfl (by ((try simp only [List.map_toArray, List.map_cons, List.map_nil]); (rfl))) ?_; (with_reducible refine (wicketref03_Unescape.calls kj31 (t444.extract 0 (x11_31 : Int).toNat) t446 t447 t448 _ A40.out).mono ?_); rintro e w47 ⟨rfl, hb⟩; refine ⟨_, rfl, ?_⟩; replace HB := Aside0.mk (below_step HB.out hb); clear hb) | ((with_reducible refine gate_callee (f := 68) rfl ?_); refine goesL_ (some 101) rfl rfl Tryz.func68 (by kernel_rfl) rfl #[.string (t444.extract ((ji41) : Int).toNat t444.size)] rfl (by (try simp only [List.map_toArray, List.map_cons, List.map_nil]); (rfl)) ?_; (with_reducible refine (wicketref03_Unescape.calls kj31 (t444.extract ((ji41) : Int).toNat t444.size) t449 t450 t451 _ A44.out).mono ?_); rintro e w48 ⟨rfl, hb⟩; refine ⟨_, rfl, ?_⟩; replace HB := Aside0.mk (below_step HB.out hb); clear hb))
                                   go_ret3
                                   exact ⟨by (rfl), by (with_reducible exact HB.out)⟩
                                 · rw [if_neg c46] at H
                                   have c46b0 : (t450 == 0) = false := beq_eq_false_iff_ne.mpr c46
                                   have c46b1 : (t450 != 0) = true := bne_iff_ne.mpr c46
                                   simp only [Option.some.injEq, Prod.mk.injEq] at H
                                   obtain ⟨rfl, rfl, rfl⟩ := H
                                   go_wp2_with (first | ((with_reducible refine gate_callee (f := 68) rfl ?_); refine goesL_ (some 92) rfl rfl Tryz.func68 (by kernel_rfl) rfl #[.string (t444.extract 0 (x11_31 : Int).toNat)] rfl (by ((try simp only [List.map_toArray, List.map_cons, List.map_nil]); (rfl))) ?_; (with_reducible refine (wicketref03_Unescape.calls kj31 (t444.extract 0 (x11_31 : Int).toNat) t446 t447 t448 _ A40.out).mono ?_); rintro e w49 ⟨rfl, hb⟩; refine ⟨_, rfl, ?_⟩; replace HB := Aside0.mk (below_step HB.out hb); clear hb) | ((with_reducible refine gate_callee (f := 68) rfl ?_); refine goesL_ (some 101) rfl rfl Tryz.func68 (by kernel_rfl) rfl #[.string (t444.extract ((ji41) : Int).toNat t444.size)] rfl (by (try simp only [List.map_toArray, List.map_cons, List.map_nil]); (rfl)) ?_; (with_reducible refine (wicketref03_Unescape.calls kj31 (t444.extract ((ji41) : Int).toNat t444.size) t449 t450 t451 _ A44.out).mono ?_); rintro e w50 ⟨rfl, hb⟩; refine ⟨_, rfl, ?_⟩; replace HB := Aside0.mk (below_step HB.out hb); clear hb))
                                   go_ret3
                                   exact ⟨by (rfl), by (with_reducible exact HB.out)⟩
                               · rw [if_neg c45] at H
                                 have c45b0 : (t447 == 0) = false := beq_eq_false_iff_ne.mpr c45
                                 have c45b1 : (t447 != 0) = true := bne_iff_ne.mpr c45
                                 simp only [Option.some.injEq, Prod.mk.injEq] at H
                                 obtain ⟨rfl, rfl, rfl⟩ := H
                                 go_wp2_with (first | ((with_reducible refine gate_callee (f := 68) rfl ?_); refine goesL_ (some 92) rfl rfl Tryz.func68 (by kernel_rfl) rfl #[.string (t444.extract 0 (x11_31 : Int).toNat)] rfl (by ((try simp only [List.map_toArray, List.map_cons, List.map_nil]); (rfl))) ?_; (with_reducible refine (wicketref03_Unescape.calls kj31 (t444.extract 0 (x11_31 : Int).toNat) t446 t447 t448 _ A40.out).mono ?_); rintro e w51 ⟨rfl, hb⟩; refine ⟨_, rfl, ?_⟩; replace HB := Aside0.mk (below_step HB.out hb); clear hb) | ((with_reducible refine gate_callee (f := 68) rfl ?_); refine goesL_ (some 101) rfl rfl Tryz.func68 (by kernel_rfl) rfl #[.string (t444.extract ((ji41) : Int).toNat t444.size)] rfl (by (try simp only [List.map_toArray, List.map_cons, List.map_nil]); (rfl)) ?_; (with_reducible refine (wicketref03_Unescape.calls kj31 (t444.extract ((ji41) : Int).toNat t444.size) t449 t450 t451 _ A44.out).mono ?_); rintro e w52 ⟨rfl, hb⟩; refine ⟨_, rfl, ?_⟩; replace HB := Aside0.mk (below_step HB.out hb); clear hb))
                                 go_ret3
                                 exact ⟨by (rfl), by (with_reducible exact HB.out)⟩
                             · rw [if_neg c43] at H
                               exact absurd H (by simp)
                           · rw [if_neg c42] at H
                             exact absurd H (by simp)
                         · rw [if_neg c39] at H
                           exact absurd H (by simp)
                       · rw [if_neg c38] at H
                         exact absurd H (by simp)
             · rw [if_neg c26] at H
               exact absurd H (by simp)
           · rw [if_neg c25] at H
             exact absurd H (by simp)
end Go.Proofs.YtmimipgmhgalaaaGreatDoor.PAll
end
section
namespace Go.Proofs.YtmimipgmhgalaaaGreatDoor.PAll
open Go.RowKit Go.Proofs.YtmimipgmhgalaaaGreatDoorW.PrintWords Go.Proofs.YtmimipgmhgalaaaGreatDoorW.PrintLast Go.Proofs.YtmimipgmhgalaaaGreatDoorW.PrintMore
attribute [local go_sem] max2_int min2_int max_two min_two max_three min_three max_four min_four
set_option linter.unusedVariables false
set_option linter.unusedSimpArgs false
def digest_place.l0 : Nat → ByteArray → Int → Int → Int → Option (Int)
 | 0, _, _, _, _ => none
 | k + 1, x0, x1, x7, x8 => if x8 < x7 then (if 0 ≤ x8 then (if x8 < (x0.size : Int) then (if (bt x0 x8) = x1 then (some x8) else (digest_place.l0 k x0 x1 x7 (wrap64 (x8 + 1)))) else (none)) else (none)) else (some (-1))
def digest_place.f (k : Nat) (a0 : ByteArray) (a1 : Int) : Option (Int) := digest_place.l0 k a0 a1 (a0.size : Int) 0
set_option maxHeartbeats 8000000 in
set_option maxRecDepth 100000 in
theorem digest_place.calls (k : Nat) (a0 : ByteArray) (a1 : Int) (r : Int) (w : World) (h : digest_place.f k a0 a1 = some r) :
 Calls Tryz.prog 157 #[.string a0, .int .u8 a1] w fun e w' => e = .returned (.int .i64 r) ∧ Drawn0 w w' := by
 have H : (digest_place.l0 k a0 a1 (a0.size : Int) 0) = some r := h
 clear h
 have H' := Aside0.mk H
 clear H
 go_enter Tryz.func157, Tryz.ntmps157
 go_wp2
 go_loopg [8] k (fun kq v8 w' => ∃ (x8_1 : Int), v8 = .int .i64 x8_1 ∧ Aside0 (digest_place.l0 kq a0 a1 (a0.size : Int) x8_1 = some r) ∧ Aside0 (kq ≤ k) ∧ Drawn0 w w')
 case atStart => exact ⟨(0), rfl, H', ⟨Nat.le_refl _⟩, by repeat (exact Drawn0.refl _)⟩
 case round =>
  clear H'
  obtain ⟨x8_1, rfl, HA, HK1, ⟨m1, rfl⟩⟩ := hrel
  cases gk with
  | zero => exact absurd HA.out (by simp [digest_place.l0])
  | succ k1 =>
   have H := HA.out
   clear HA
   simp only [digest_place.l0] at H
   by_cases c3 : x8_1 < (a0.size : Int)
   · rw [if_pos c3] at H
     have c3b0 : decide (x8_1 < (a0.size : Int)) = true := decide_eq_true c3
     clear c3
     by_cases c4 : 0 ≤ x8_1
     · rw [if_pos c4] at H
       have c4b0 : decide (0 ≤ x8_1) = true := decide_eq_true c4
       clear c4
       by_cases c5 : x8_1 < (a0.size : Int)
       · rw [if_pos c5] at H
         have c5b0 : decide (x8_1 < (a0.size : Int)) = true := decide_eq_true c5
         clear c5
         by_cases c7 : (bt a0 x8_1) = a1
         · rw [if_pos c7] at H
           have c7b0 : ((bt a0 x8_1) == a1) = true := beq_iff_eq.mpr c7
           have c7b1 : ((bt a0 x8_1) != a1) = false := bne_eq_false_iff_eq.mpr c7
           clear c7
           obtain rfl := Option.some.inj H
           have p6 : 0 ≤ (x8_1 : Int) := of_decide_eq_true (by assumption)
           have q6 : x8_1 < (a0.size : Int) := of_decide_eq_true (by assumption)
           have hx6 := bt_at a0 x8_1
           replace p6 := eq_true p6
           replace q6 := eq_true q6
           go_wp2
           go_ret
           exact ⟨by (rfl), by repeat (first | exact Drawn0.refl _ | apply Drawn0.step)⟩
         · rw [if_neg c7] at H
           have c7b0 : ((bt a0 x8_1) == a1) = false := beq_eq_false_iff_ne.mpr c7
           have c7b1 : ((bt a0 x8_1) != a1) = true := bne_iff_ne.mpr c7
           have H' := Aside0.mk H
           clear H
           have p6 : 0 ≤ (x8_1 : Int) := of_decide_eq_true (by assumption)
           have q6 : x8_1 < (a0.size : Int) := of_decide_eq_true (by assumption)
           have hx6 := bt_at a0 x8_1
           replace p6 := eq_true p6
           replace q6 := eq_true q6
           go_wp2
           go_roundg k1
           case measure => have := HK1.out; omega
           case rel => exact ⟨(wrap64 (x8_1 + 1)), rfl, H', ⟨by have := HK1.out; omega⟩, by repeat (first | exact Drawn0.refl _ | apply Drawn0.step)⟩
       · rw [if_neg c5] at H
         exact absurd H (by simp)
     · rw [if_neg c4] at H
       exact absurd H (by simp)
   · rw [if_neg c3] at H
     have c3b0 : decide (x8_1 < (a0.size : Int)) = false := decide_eq_false c3
     clear c3
     obtain rfl := Option.some.inj H
     go_wp2
     go_ret
     exact ⟨by (rfl), by repeat (first | exact Drawn0.refl _ | apply Drawn0.step)⟩
def digest_values.l0 : Nat → ByteArray → ByteArray → List Int → Int → Int → Option (List Int × Int × Int)
 | 0, _, _, _, _, _ => none
 | k + 1, x0, x1, x7, x14, x15 => if x15 < x14 then (if 0 ≤ x15 then (if x15 < (x1.size : Int) then ((digest_place.f k x0 (bt x1 x15)).bind fun t186 => (if t186 < 0 then (some (([] : List Int), 20, x15)) else (if x7.length < 17592186044416 then (digest_values.l0 k x0 x1 (x7 ++ [t186]) x14 (wrap64 (x15 + 1))) else (none)))) else (none)) else (none)) else (some (x7, 0, 0))
def digest_values.f (k : Nat) (a0 : ByteArray) (a1 : ByteArray) : Option (List Int × Int × Int) := if (a1.size : Int) > 65536 then (some (([] : List Int), 1, 0)) else (digest_values.l0 k a0 a1 ([] : List Int) (a1.size : Int) 0)
set_option maxHeartbeats 8000000 in
set_option maxRecDepth 100000 in
theorem digest_values.calls (k : Nat) (a0 : ByteArray) (a1 : ByteArray) (r1 : List Int) (r2 : Int) (r3 : Int) (w : World) (h : digest_values.f k a0 a1 = some (r1, r2, r3)) :
 Calls Tryz.prog 133 #[.string a0, .string a1] w fun e w' => ∃ v0_ : Value, e = .returned (.tuple #[v0_, .int .i64 r2, .int .i64 r3]) ∧ Kd.R (Kd.int .i64) 3 w' w.heap.size (fun _ => True) v0_ r1 ∧ Below w.heap.size w w' := by
 have HB := Aside0.mk (Below.refl w.heap.size w)
 have H : (if (a1.size : Int) > 65536 then (some (([] : List Int), 1, 0)) else (digest_values.l0 k a0 a1 ([] : List Int) (a1.size : Int) 0)) = some (r1, r2, r3) := h
 clear h
 by_cases c3 : (a1.size : Int) > 65536
 · rw [if_pos c3] at H
   have c3b0 : decide (65536 < (a1.size : Int)) = true := decide_eq_true c3
   have c3b1 : decide (65536 < a1.size) = true := decide_eq_true (by omega)
   clear c3
   simp only [Option.some.injEq, Prod.mk.injEq] at H
   obtain ⟨rfl, rfl, rfl⟩ := H
   go_enter Tryz.func133, Tryz.ntmps133
   go_wp2
   go_ret3
   exact ⟨_, rfl, by (exact Kd.R_nil _ _ _ _ _), by (with_reducible exact HB.out)⟩
 · rw [if_neg c3] at H
   have c3b0 : decide (65536 < (a1.size : Int)) = false := decide_eq_false c3
   have c3b1 : decide (65536 < a1.size) = false := decide_eq_false (by omega)
   clear c3
   have H' := Aside0.mk H
   clear H
   go_enter Tryz.func133, Tryz.ntmps133
   go_wp2
   go_loopg [7, 15] k (fun kq v7 v15 w' => ∃ (x7_1 : List Int) (x15_1 : Int), v15 = .int .i64 x15_1 ∧ Aside0 (digest_values.l0 kq a0 a1 x7_1 (a1.size : Int) x15_1 = some (r1, r2, r3)) ∧ Aside0 (kq ≤ k) ∧ Aside0 (Kd.R (Kd.int .i64) 3 w' w.heap.size (fun _ => True) v7 x7_1) ∧ Aside0 (Below w.heap.size w w'))
   case atStart => exact ⟨(([] : List Int)), (0), rfl, H', ⟨Nat.le_refl _⟩, ⟨by (exact Kd.R_nil _ _ _ _ _)⟩, ⟨HB.out⟩⟩
   case round =>
    clear H' c3b0 c3b1
    obtain ⟨x7_1, x15_1, rfl, HA, HK1, HO_7, HB⟩ := hrel
    cases gk with
    | zero => exact absurd HA.out (by simp [digest_values.l0])
    | succ k1 =>
     have H := HA.out
     clear HA
     simp only [digest_values.l0] at H
     by_cases c4 : x15_1 < (a1.size : Int)
     · rw [if_pos c4] at H
       have c4b0 : decide (x15_1 < (a1.size : Int)) = true := decide_eq_true c4
       clear c4
       by_cases c5 : 0 ≤ x15_1
       · rw [if_pos c5] at H
         have c5b0 : decide (0 ≤ x15_1) = true := decide_eq_true c5
         clear c5
         by_cases c6 : x15_1 < (a1.size : Int)
         · rw [if_pos c6] at H
           have c6b0 : decide (x15_1 < (a1.size : Int)) = true := decide_eq_true c6
           clear c6
           replace H := Option.bind_eq_some_iff.mp H
           obtain ⟨t186, A80, H⟩ := H
           replace H : (if t186 < 0 then (some (([] : List Int), 20, x15_1)) else (if x7_1.length < 17592186044416 then (digest_values.l0 k1 a0 a1 (x7_1 ++ [t186]) (a1.size : Int) (wrap64 (x15_1 + 1))) else (none))) = some (r1, r2, r3) := H
           have A8 := Aside0.mk A80
           clear A80
           by_cases c9 : t186 < 0
           · rw [if_pos c9] at H
             have c9b0 : decide (t186 < 0) = true := decide_eq_true c9
             clear c9
             simp only [Option.some.injEq, Prod.mk.injEq] at H
             obtain ⟨rfl, rfl, rfl⟩ := H
             have p7 : 0 ≤ (x15_1 : Int) := of_decide_eq_true (by assumption)
             have q7 : x15_1 < (a1.size : Int) := of_decide_eq_true (by assumption)
             have hx7 := bt_at a1 x15_1
             replace p7 := eq_true p7
             replace q7 := eq_true q7
             go_wp2_with (first | ((with_reducible refine gate_callee (f := 157) rfl ?_); refine goesL_ (some 22) rfl rfl Tryz.func157 (by kernel_rfl) rfl #[.string a0, .int .u8 (bt a1 x15_1)] rfl (by ((try simp only [List.map_toArray, List.map_cons, List.map_nil]); (rfl))) ?_; (with_reducible refine (digest_place.calls k1 a0 (bt a1 x15_1) t186 _ A8.out).mono ?_); rintro e w' ⟨rfl, ⟨nd, rfl⟩⟩; refine ⟨_, rfl, ?_⟩))
             go_ret3
             exact ⟨_, rfl, by (exact Kd.R_nil _ _ _ _ _), by (repeat (with_reducible first | exact HB.out | apply pw_below_drewN))⟩
           · rw [if_neg c9] at H
             have c9b0 : decide (t186 < 0) = false := decide_eq_false c9
             clear c9
             by_cases c10 : x7_1.length < 17592186044416
             · rw [if_pos c10] at H
               have LMc10 := Aside0.mk c10
               clear c10
               obtain ⟨y187, hy187⟩ : ∃ y_ : List Int, y_ = (x7_1 ++ [t186]) := ⟨_, rfl⟩
               replace H : (digest_values.l0 k1 a0 a1 y187 (a1.size : Int) (wrap64 (x15_1 + 1))) = some (r1, r2, r3) := by (rw [hy187]; with_reducible exact H)
               have Ny187 := Aside0.mk hy187
               clear hy187
               have H' := Aside0.mk H
               clear H
               have p7 : 0 ≤ (x15_1 : Int) := of_decide_eq_true (by assumption)
               have q7 : x15_1 < (a1.size : Int) := of_decide_eq_true (by assumption)
               have hx7 := bt_at a1 x15_1
               replace p7 := eq_true p7
               replace q7 := eq_true q7
               go_wp2_with (first | ((with_reducible refine gate_callee (f := 157) rfl ?_); refine goesL_ (some 22) rfl rfl Tryz.func157 (by kernel_rfl) rfl #[.string a0, .int .u8 (bt a1 x15_1)] rfl (by ((try simp only [List.map_toArray, List.map_cons, List.map_nil]); (rfl))) ?_; (with_reducible refine (digest_place.calls k1 a0 (bt a1 x15_1) t186 _ A8.out).mono ?_); rintro e w' ⟨rfl, ⟨nd, rfl⟩⟩; refine ⟨_, rfl, ?_⟩) | ((with_reducible refine gate_builtin (b := .append) (xs := #[.tmp 26, .tmp 28]) rfl ?_); at_builtin; refine Kd.R_append (Kd.int .i64) (w0 := w) w.heap.size rfl (.tmp 26) (.tmp 28) 122 3 (.int .i64 0) 8 rfl Tryz.underlying122 info3 rfl (by decide) (by omega) u7 x7_1 t186 [.int .i64 t186] (fun _ => True) (fun _ => False) rfl rfl ?aP (fun _ hk => hk.elim) ?aF ?aO ?aB ?aS ?aL ?_; (case aP => exact rfl); (case aB => exact (by (repeat (with_reducible first | exact HB.out | apply pw_below_drewN)))); (case aF => exact (fun _ _ => trivial)); (case aO => exact (by ((with_reducible repeat (apply Kd.R_drewN)); exact HO_7.out))); (case aS => exact (below_size (by (repeat (with_reducible first | exact HB.out | apply pw_below_drewN))))); (case aL => have := LMc10.out; omega); intro v188 w11 ho hb hg hat; rw [← Ny187.out] at ho; have n0_ := Aside0.mk hb; have n1_ := Aside0.mk ho; clear HB HO_7; have HB := n0_; have HO189 := n1_; clear n0_ n1_; clear ho hb hg hat))
               go_roundg k1
               case measure => have := HK1.out; omega
               case rel => exact ⟨(y187), (wrap64 (x15_1 + 1)), rfl, H', ⟨by have := HK1.out; omega⟩, ⟨HO189.out⟩, ⟨HB.out⟩⟩
             · rw [if_neg c10] at H
               exact absurd H (by simp)
         · rw [if_neg c6] at H
           exact absurd H (by simp)
       · rw [if_neg c5] at H
         exact absurd H (by simp)
     · rw [if_neg c4] at H
       have c4b0 : decide (x15_1 < (a1.size : Int)) = false := decide_eq_false c4
       clear c4
       simp only [Option.some.injEq, Prod.mk.injEq] at H
       obtain ⟨rfl, rfl, rfl⟩ := H
       go_wp2
       go_ret3
       exact ⟨_, rfl, by ((with_reducible repeat (first | apply Kd.R_alloc  | apply Kd.R_drewN  | apply Kd.R_drew)); exact HO_7.out), by (with_reducible exact HB.out)⟩
def digest_FromBase64.l0 : Nat → ByteArray → List Int → Int → Int → List Int → Int → Int → Option (List Int × Int × Int)
 | 0, _, _, _, _, _, _, _ => none
 | k + 1, x0, x8, x9, x10, x16, x30, x31 => if x31 < x30 then (if 0 ≤ x31 then (if x31 < (x16.length : Int) then (if (wrap64 (x10 + 6)) ≥ 8 then (if 0 ≤ (wrap64 ((wrap64 (x10 + 6)) - 8)) then (if x8.length < 140737488355328 then (digest_FromBase64.l0 k x0 (x8 ++ [(shr .i64 (Go.bits .or .i64 (wrap64 (x9 * 64)) (rd x16 x31)) (wrap64 ((wrap64 (x10 + 6)) - 8))) % 256]) (Go.bits .and .i64 (Go.bits .or .i64 (wrap64 (x9 * 64)) (rd x16 x31)) (wrap64 ((shl .i64 1 (wrap64 ((wrap64 (x10 + 6)) - 8))) - 1))) (wrap64 ((wrap64 (x10 + 6)) - 8)) x16 x30 (wrap64 (x31 + 1))) else (none)) else (none)) else (digest_FromBase64.l0 k x0 x8 (Go.bits .or .i64 (wrap64 (x9 * 64)) (rd x16 x31)) (wrap64 (x10 + 6)) x16 x30 (wrap64 (x31 + 1)))) else (none)) else (none)) else (if x9 = 0 then (some (x8, 0, 0)) else (some (([] : List Int), 21, wrap64 ((x0.size : Int) - 1))))
def digest_FromBase64.f (k : Nat) (a0 : ByteArray) : Option (List Int × Int × Int) := (digest_values.f k (⟨#[65, 66, 67, 68, 69, 70, 71, 72, 73, 74, 75, 76, 77, 78, 79, 80, 81, 82, 83, 84, 85, 86, 87, 88, 89, 90, 97, 98, 99, 100, 101, 102, 103, 104, 105, 106, 107, 108, 109, 110, 111, 112, 113, 114, 115, 116, 117, 118, 119, 120, 121, 122, 48, 49, 50, 51, 52, 53, 54, 55, 56, 57, 45, 95]⟩ : ByteArray) a0).bind fun bt190 => (if bt190.2.1 = 0 then (if ((bt190.1.length : Int) % 4) = 1 then (some (([] : List Int), 3, (a0.size : Int))) else (digest_FromBase64.l0 k a0 ([] : List Int) 0 0 bt190.1 (bt190.1.length : Int) 0)) else (some (([] : List Int), bt190.2.1, bt190.2.2)))
set_option maxHeartbeats 8000000 in
set_option maxRecDepth 100000 in
theorem digest_FromBase64.calls (k : Nat) (a0 : ByteArray) (r1 : List Int) (r2 : Int) (r3 : Int) (w : World) (h : digest_FromBase64.f k a0 = some (r1, r2, r3)) :
 Calls Tryz.prog 99 #[.string a0] w fun e w' => ∃ v0_ : Value, e = .returned (.tuple #[v0_, .int .i64 r2, .int .i64 r3]) ∧ Kd.R (Kd.int .u8) 5 w' w.heap.size (fun _ => True) v0_ r1 ∧ Below w.heap.size w w' := by
 have HB := Aside0.mk (Below.refl w.heap.size w)
 have H : ((digest_values.f k (⟨#[65, 66, 67, 68, 69, 70, 71, 72, 73, 74, 75, 76, 77, 78, 79, 80, 81, 82, 83, 84, 85, 86, 87, 88, 89, 90, 97, 98, 99, 100, 101, 102, 103, 104, 105, 106, 107, 108, 109, 110, 111, 112, 113, 114, 115, 116, 117, 118, 119, 120, 121, 122, 48, 49, 50, 51, 52, 53, 54, 55, 56, 57, 45, 95]⟩ : ByteArray) a0).bind fun bt190 => (if bt190.2.1 = 0 then (if ((bt190.1.length : Int) % 4) = 1 then (some (([] : List Int), 3, (a0.size : Int))) else (digest_FromBase64.l0 k a0 ([] : List Int) 0 0 bt190.1 (bt190.1.length : Int) 0)) else (some (([] : List Int), bt190.2.1, bt190.2.2)))) = some (r1, r2, r3) := h
 clear h
 replace H := Option.bind_eq_some_iff.mp H
 obtain ⟨⟨t190, t191, t192⟩, A20, H⟩ := H
 replace H : (if t191 = 0 then (if ((t190.length : Int) % 4) = 1 then (some (([] : List Int), 3, (a0.size : Int))) else (digest_FromBase64.l0 k a0 ([] : List Int) 0 0 t190 (t190.length : Int) 0)) else (some (([] : List Int), t191, t192))) = some (r1, r2, r3) := H
 have A2 := Aside0.mk A20
 clear A20
 by_cases c3 : t191 = 0
 · rw [if_pos c3] at H
   have c3b0 : (t191 == 0) = true := beq_iff_eq.mpr c3
   have c3b1 : (t191 != 0) = false := bne_eq_false_iff_eq.mpr c3
   clear c3
   by_cases c4 : ((t190.length : Int) % 4) = 1
   · rw [if_pos c4] at H
     have c4b0 : (((t190.length : Int) % 4) == 1) = true := beq_iff_eq.mpr c4
     have c4b1 : (((t190.length : Int) % 4) != 1) = false := bne_eq_false_iff_eq.mpr c4
     clear c4
     simp only [Option.some.injEq, Prod.mk.injEq] at H
     obtain ⟨rfl, rfl, rfl⟩ := H
     go_enter Tryz.func99, Tryz.ntmps99
     go_wp2_with (first | ((with_reducible refine gate_callee (f := 133) rfl ?_); refine goesL_ (some 15) rfl rfl Tryz.func133 (by kernel_rfl) rfl #[.string (⟨#[65, 66, 67, 68, 69, 70, 71, 72, 73, 74, 75, 76, 77, 78, 79, 80, 81, 82, 83, 84, 85, 86, 87, 88, 89, 90, 97, 98, 99, 100, 101, 102, 103, 104, 105, 106, 107, 108, 109, 110, 111, 112, 113, 114, 115, 116, 117, 118, 119, 120, 121, 122, 48, 49, 50, 51, 52, 53, 54, 55, 56, 57, 45, 95]⟩ : ByteArray), .string a0] rfl (by ((try simp only [List.map_toArray, List.map_cons, List.map_nil]); (rfl))) ?_; (with_reducible refine (digest_values.calls k (⟨#[65, 66, 67, 68, 69, 70, 71, 72, 73, 74, 75, 76, 77, 78, 79, 80, 81, 82, 83, 84, 85, 86, 87, 88, 89, 90, 97, 98, 99, 100, 101, 102, 103, 104, 105, 106, 107, 108, 109, 110, 111, 112, 113, 114, 115, 116, 117, 118, 119, 120, 121, 122, 48, 49, 50, 51, 52, 53, 54, 55, 56, 57, 45, 95]⟩ : ByteArray) a0 t190 t191 t192 _ A2.out).mono ?_); rintro e w5 ⟨v193, rfl, ho0, hb⟩; refine ⟨_, rfl, ?_⟩; have HO194 := Aside0.mk (Kd.R_lower ho0 (below_size HB.out)); replace HB := Aside0.mk (below_step HB.out hb); clear hb ho0; obtain ⟨Ao6, co6, eo6⟩ := Kd.R_slice HO194.out; subst eo6))
     go_ret3
     exact ⟨_, rfl, by (exact Kd.R_nil _ _ _ _ _), by (with_reducible exact HB.out)⟩
   · rw [if_neg c4] at H
     have c4b0 : (((t190.length : Int) % 4) == 1) = false := beq_eq_false_iff_ne.mpr c4
     have c4b1 : (((t190.length : Int) % 4) != 1) = true := bne_iff_ne.mpr c4
     have H' := Aside0.mk H
     clear H
     go_enter Tryz.func99, Tryz.ntmps99
     go_wp2_with (first | ((with_reducible refine gate_callee (f := 133) rfl ?_); refine goesL_ (some 15) rfl rfl Tryz.func133 (by kernel_rfl) rfl #[.string (⟨#[65, 66, 67, 68, 69, 70, 71, 72, 73, 74, 75, 76, 77, 78, 79, 80, 81, 82, 83, 84, 85, 86, 87, 88, 89, 90, 97, 98, 99, 100, 101, 102, 103, 104, 105, 106, 107, 108, 109, 110, 111, 112, 113, 114, 115, 116, 117, 118, 119, 120, 121, 122, 48, 49, 50, 51, 52, 53, 54, 55, 56, 57, 45, 95]⟩ : ByteArray), .string a0] rfl (by ((try simp only [List.map_toArray, List.map_cons, List.map_nil]); (rfl))) ?_; (with_reducible refine (digest_values.calls k (⟨#[65, 66, 67, 68, 69, 70, 71, 72, 73, 74, 75, 76, 77, 78, 79, 80, 81, 82, 83, 84, 85, 86, 87, 88, 89, 90, 97, 98, 99, 100, 101, 102, 103, 104, 105, 106, 107, 108, 109, 110, 111, 112, 113, 114, 115, 116, 117, 118, 119, 120, 121, 122, 48, 49, 50, 51, 52, 53, 54, 55, 56, 57, 45, 95]⟩ : ByteArray) a0 t190 t191 t192 _ A2.out).mono ?_); rintro e w7 ⟨v193, rfl, ho0, hb⟩; refine ⟨_, rfl, ?_⟩; have HO194 := Aside0.mk (Kd.R_lower ho0 (below_size HB.out)); replace HB := Aside0.mk (below_step HB.out hb); clear hb ho0; obtain ⟨Ao8, co8, eo8⟩ := Kd.R_slice HO194.out; subst eo8))
     go_loopg [8, 9, 10, 31] k (fun kq v8 v9 v10 v31 w' => ∃ (x8_1 : List Int) (x9_1 : Int) (x10_1 : Int) (x31_1 : Int), v9 = .int .i64 x9_1 ∧ v10 = .int .i64 x10_1 ∧ v31 = .int .i64 x31_1 ∧ Aside0 (digest_FromBase64.l0 kq a0 x8_1 x9_1 x10_1 t190 (t190.length : Int) x31_1 = some (r1, r2, r3)) ∧ Aside0 (kq ≤ k) ∧ Aside0 (Kd.R (Kd.int .u8) 5 w' w.heap.size (fun _ => True) v8 x8_1) ∧ Aside0 (Kd.R (Kd.int .i64) 3 w' w.heap.size (fun _ => True) (.slice Ao8 t190.length co8) t190) ∧ Aside0 (Below w.heap.size w w'))
     case atStart => exact ⟨(([] : List Int)), (0), (0), (0), rfl, rfl, rfl, H', ⟨Nat.le_refl _⟩, ⟨by (exact Kd.R_nil _ _ _ _ _)⟩, ⟨HO194.out⟩, ⟨HB.out⟩⟩
     case round =>
      clear H' c3b0 c3b1 c4 c4b0 c4b1
      obtain ⟨x8_1, x9_1, x10_1, x31_1, rfl, rfl, rfl, HA, HK1, HO_8, HO_16, HB⟩ := hrel
      cases gk with
      | zero => exact absurd HA.out (by simp [digest_FromBase64.l0])
      | succ k1 =>
       have H := HA.out
       clear HA
       simp only [digest_FromBase64.l0] at H
       by_cases c9 : x31_1 < (t190.length : Int)
       · rw [if_pos c9] at H
         have c9b0 : decide (x31_1 < (t190.length : Int)) = true := decide_eq_true c9
         clear c9
         by_cases c10 : 0 ≤ x31_1
         · rw [if_pos c10] at H
           have c10b0 : decide (0 ≤ x31_1) = true := decide_eq_true c10
           clear c10
           by_cases c11 : x31_1 < (t190.length : Int)
           · rw [if_pos c11] at H
             have c11b0 : decide (x31_1 < (t190.length : Int)) = true := decide_eq_true c11
             clear c11
             by_cases c12 : (wrap64 (x10_1 + 6)) ≥ 8
             · rw [if_pos c12] at H
               have c12b0 : decide (8 ≤ (wrap64 (x10_1 + 6))) = true := decide_eq_true c12
               clear c12
               obtain ⟨ji13, hji13⟩ : ∃ j_ : Int, (wrap64 ((wrap64 (x10_1 + 6)) - 8)) = j_ := ⟨_, rfl⟩
               replace H : (if 0 ≤ (ji13) then (if x8_1.length < 140737488355328 then (digest_FromBase64.l0 k1 a0 (x8_1 ++ [(shr .i64 (Go.bits .or .i64 (wrap64 (x9_1 * 64)) (rd t190 x31_1)) (ji13)) % 256]) (Go.bits .and .i64 (Go.bits .or .i64 (wrap64 (x9_1 * 64)) (rd t190 x31_1)) (wrap64 ((shl .i64 1 (ji13)) - 1))) ji13 t190 (t190.length : Int) (wrap64 (x31_1 + 1))) else (none)) else (none)) = some (r1, r2, r3) := by (rw [hji13] at H; exact H)
               have hji13w : (IntKind.i64.wrap ((wrap64 (x10_1 + 6)) - 8)) = ji13 := (i64_w _).trans hji13
               by_cases c14 : 0 ≤ (ji13)
               · rw [if_pos c14] at H
                 have c14b0 := eq_true c14
                 have c14b1 : decide (0 ≤ (ji13)) = true := decide_eq_true c14
                 clear c14
                 obtain ⟨ji15, hji15⟩ : ∃ j_ : Int, (shr .i64 (Go.bits .or .i64 (wrap64 (x9_1 * 64)) (rd t190 x31_1)) (ji13)) = j_ := ⟨_, rfl⟩
                 replace H : (if x8_1.length < 140737488355328 then (digest_FromBase64.l0 k1 a0 (x8_1 ++ [(ji15) % 256]) (Go.bits .and .i64 (Go.bits .or .i64 (wrap64 (x9_1 * 64)) (rd t190 x31_1)) (wrap64 ((shl .i64 1 (ji13)) - 1))) ji13 t190 (t190.length : Int) (wrap64 (x31_1 + 1))) else (none)) = some (r1, r2, r3) := by (rw [hji15] at H; exact H)
                 have hji15_ : ((Go.bits .or .i64 (wrap64 (x9_1 * 64)) (rd t190 x31_1)) / 2 ^ min (ji13).toNat 64) = ji15 := hji15
                 have hji15z : (ji13) ≤ 64 → ((Go.bits .or .i64 (wrap64 (x9_1 * 64)) (rd t190 x31_1)) / 2 ^ (ji13).toNat) = ji15 := shr_small hji15
                 by_cases c16 : x8_1.length < 140737488355328
                 · rw [if_pos c16] at H
                   have LMc16 := Aside0.mk c16
                   clear c16
                   obtain ⟨y196, hy196⟩ : ∃ y_ : List Int, y_ = (x8_1 ++ [(ji15) % 256]) := ⟨_, rfl⟩
                   replace H : (digest_FromBase64.l0 k1 a0 y196 (Go.bits .and .i64 (Go.bits .or .i64 (wrap64 (x9_1 * 64)) (rd t190 x31_1)) (wrap64 ((shl .i64 1 (ji13)) - 1))) ji13 t190 (t190.length : Int) (wrap64 (x31_1 + 1))) = some (r1, r2, r3) := by (rw [hy196]; with_reducible exact H)
                   have Ny196 := Aside0.mk hy196
                   clear hy196
                   have c17b0 := eq_true (of_decide_eq_true (by assumption) : 0 ≤ (ji13))
                   obtain ⟨ji18, hji18⟩ : ∃ j_ : Int, (shl .i64 1 (ji13)) = j_ := ⟨_, rfl⟩
                   replace H : (digest_FromBase64.l0 k1 a0 y196 (Go.bits .and .i64 (Go.bits .or .i64 (wrap64 (x9_1 * 64)) (rd t190 x31_1)) (wrap64 ((ji18) - 1))) ji13 t190 (t190.length : Int) (wrap64 (x31_1 + 1))) = some (r1, r2, r3) := by (rw [hji18] at H; exact H)
                   have hji18_ : (IntKind.i64.wrap (1 * 2 ^ min (ji13).toNat 64)) = ji18 := hji18
                   have hji18z : (ji13) ≤ 64 → (IntKind.i64.wrap (1 * 2 ^ (ji13).toNat)) = ji18 := shl_small hji18
                   have hji18u : (IntKind.i64.wrap (2 ^ min (ji13).toNat 64)) = ji18 := by have h_ := hji18_; rw [Int.one_mul] at h_; exact h_
                   have hji18v : (ji13) ≤ 64 → (IntKind.i64.wrap (2 ^ (ji13).toNat)) = ji18 := fun hle_ => by have h_ := hji18z hle_; rw [Int.one_mul] at h_; exact h_
                   have hji18y : (wrap64 (1 * 2 ^ min (ji13).toNat 64)) = ji18 := (i64_w _).symm.trans hji18_
                   have hji18x : (ji13) ≤ 64 → (wrap64 (1 * 2 ^ (ji13).toNat)) = ji18 := fun h_ => (i64_w _).symm.trans (hji18z h_)
                   have H' := Aside0.mk H
                   clear H
                   have p195 : 0 ≤ (x31_1 : Int) := of_decide_eq_true (by assumption)
                   have q195 : x31_1 < (t190.length : Int) := of_decide_eq_true (by assumption)
                   obtain ⟨ad195, e195, hx195_0⟩ := Kd.at_int (Kd.R_reads' HO_16.out).2.2 x31_1 p195 q195
                   cases e195
                   replace p195 := eq_true p195
                   replace q195 := eq_true q195
                   go_wp2_with (first | ((with_reducible refine gate_builtin (b := .append) (xs := #[.tmp 45, .tmp 50]) rfl ?_); at_builtin; refine Kd.R_append (Kd.int .u8) (w0 := w) w.heap.size rfl (.tmp 45) (.tmp 50) 79 5 (.int .u8 0) 1 rfl Tryz.underlying79 info5 rfl (by decide) (by omega) u8 x8_1 ((ji15) % 256) [.int .u8 ((ji15) % 256)] (fun _ => True) (fun _ => False) rfl rfl ?aP (fun _ hk => hk.elim) ?aF ?aO ?aB ?aS ?aL ?_; (case aP => exact rfl); (case aB => exact HB.out); (case aF => exact (fun _ _ => trivial)); (case aO => exact HO_8.out); (case aS => exact (below_size HB.out)); (case aL => have := LMc16.out; omega); intro v197 w19 ho hb hg hat; rw [← Ny196.out] at ho; have n0_ := Aside0.mk (Kd.R_over' HO_16.out (Kd.R_typed HO_8.out) (by decide) hg); have n1_ := Aside0.mk hb; have n2_ := Aside0.mk ho; clear HO_16 HB HO_8; have HO_16 := n0_; have HB := n1_; have HO198 := n2_; clear n0_ n1_ n2_; clear ho hb hg hat))
                   go_roundg k1
                   case measure => have := HK1.out; omega
                   case rel => exact ⟨(y196), (Go.bits .and .i64 (Go.bits .or .i64 (wrap64 (x9_1 * 64)) (rd t190 x31_1)) (wrap64 ((ji18) - 1))), (ji13), (wrap64 (x31_1 + 1)), rfl, rfl, rfl, H', ⟨by have := HK1.out; omega⟩, ⟨HO198.out⟩, ⟨HO_16.out⟩, ⟨HB.out⟩⟩
                 · rw [if_neg c16] at H
                   exact absurd H (by simp)
               · rw [if_neg c14] at H
                 exact absurd H (by simp)
             · rw [if_neg c12] at H
               have c12b0 : decide (8 ≤ (wrap64 (x10_1 + 6))) = false := decide_eq_false c12
               clear c12
               have H' := Aside0.mk H
               clear H
               have p195 : 0 ≤ (x31_1 : Int) := of_decide_eq_true (by assumption)
               have q195 : x31_1 < (t190.length : Int) := of_decide_eq_true (by assumption)
               obtain ⟨ad195, e195, hx195_0⟩ := Kd.at_int (Kd.R_reads' HO_16.out).2.2 x31_1 p195 q195
               cases e195
               replace p195 := eq_true p195
               replace q195 := eq_true q195
               go_wp2
               go_roundg k1
               case measure => have := HK1.out; omega
               case rel => exact ⟨(x8_1), (Go.bits .or .i64 (wrap64 (x9_1 * 64)) (rd t190 x31_1)), (wrap64 (x10_1 + 6)), (wrap64 (x31_1 + 1)), rfl, rfl, rfl, H', ⟨by have := HK1.out; omega⟩, ⟨HO_8.out⟩, ⟨HO_16.out⟩, ⟨HB.out⟩⟩
           · rw [if_neg c11] at H
             exact absurd H (by simp)
         · rw [if_neg c10] at H
           exact absurd H (by simp)
       · rw [if_neg c9] at H
         have c9b0 : decide (x31_1 < (t190.length : Int)) = false := decide_eq_false c9
         clear c9
         by_cases c20 : x9_1 = 0
         · rw [if_pos c20] at H
           have c20b0 : (x9_1 == 0) = true := beq_iff_eq.mpr c20
           have c20b1 : (x9_1 != 0) = false := bne_eq_false_iff_eq.mpr c20
           clear c20
           simp only [Option.some.injEq, Prod.mk.injEq] at H
           obtain ⟨rfl, rfl, rfl⟩ := H
           go_wp2
           go_ret3
           exact ⟨_, rfl, by ((with_reducible repeat (first | apply Kd.R_alloc  | apply Kd.R_drewN  | apply Kd.R_drew)); exact HO_8.out), by (with_reducible exact HB.out)⟩
         · rw [if_neg c20] at H
           have c20b0 : (x9_1 == 0) = false := beq_eq_false_iff_ne.mpr c20
           have c20b1 : (x9_1 != 0) = true := bne_iff_ne.mpr c20
           simp only [Option.some.injEq, Prod.mk.injEq] at H
           obtain ⟨rfl, rfl, rfl⟩ := H
           go_wp2
           go_ret3
           exact ⟨_, rfl, by (exact Kd.R_nil _ _ _ _ _), by (with_reducible exact HB.out)⟩
 · rw [if_neg c3] at H
   have c3b0 : (t191 == 0) = false := beq_eq_false_iff_ne.mpr c3
   have c3b1 : (t191 != 0) = true := bne_iff_ne.mpr c3
   simp only [Option.some.injEq, Prod.mk.injEq] at H
   obtain ⟨rfl, rfl, rfl⟩ := H
   go_enter Tryz.func99, Tryz.ntmps99
   go_wp2_with (first | ((with_reducible refine gate_callee (f := 133) rfl ?_); refine goesL_ (some 15) rfl rfl Tryz.func133 (by kernel_rfl) rfl #[.string (⟨#[65, 66, 67, 68, 69, 70, 71, 72, 73, 74, 75, 76, 77, 78, 79, 80, 81, 82, 83, 84, 85, 86, 87, 88, 89, 90, 97, 98, 99, 100, 101, 102, 103, 104, 105, 106, 107, 108, 109, 110, 111, 112, 113, 114, 115, 116, 117, 118, 119, 120, 121, 122, 48, 49, 50, 51, 52, 53, 54, 55, 56, 57, 45, 95]⟩ : ByteArray), .string a0] rfl (by ((try simp only [List.map_toArray, List.map_cons, List.map_nil]); (rfl))) ?_; (with_reducible refine (digest_values.calls k (⟨#[65, 66, 67, 68, 69, 70, 71, 72, 73, 74, 75, 76, 77, 78, 79, 80, 81, 82, 83, 84, 85, 86, 87, 88, 89, 90, 97, 98, 99, 100, 101, 102, 103, 104, 105, 106, 107, 108, 109, 110, 111, 112, 113, 114, 115, 116, 117, 118, 119, 120, 121, 122, 48, 49, 50, 51, 52, 53, 54, 55, 56, 57, 45, 95]⟩ : ByteArray) a0 t190 t191 t192 _ A2.out).mono ?_); rintro e w21 ⟨v193, rfl, ho0, hb⟩; refine ⟨_, rfl, ?_⟩; have HO194 := Aside0.mk (Kd.R_lower ho0 (below_size HB.out)); replace HB := Aside0.mk (below_step HB.out hb); clear hb ho0))
   go_ret3
   exact ⟨_, rfl, by (exact Kd.R_nil _ _ _ _ _), by (with_reducible exact HB.out)⟩
end Go.Proofs.YtmimipgmhgalaaaGreatDoor.PAll
end
section
namespace Go.Proofs.YtmimipgmhgalaaaGreatDoor.PAll
open Go.RowKit Go.Proofs.YtmimipgmhgalaaaGreatDoorW.PrintWords Go.Shelf
set_option linter.unusedVariables false
set_option linter.unusedSimpArgs false
def repL (x y : UInt8) (l : List UInt8) : List UInt8 := l.map fun c => if c = x then y else c
theorem repL_none (x y : UInt8) (l : List UInt8) (h : x ∉ l) : repL x y l = l := by
  unfold repL
  conv => rhs; rw [← List.map_id l]
  apply List.map_congr_left
  intro c hc
  have hne : c ≠ x := fun e => h (by rw [← e]; exact hc)
  show (if c = x then y else c) = c
  rw [if_neg hne]
theorem repL_same (x : UInt8) (l : List UInt8) : repL x x l = l := by
  unfold repL
  conv => rhs; rw [← List.map_id l]
  apply List.map_congr_left
  intro c _
  by_cases h : c = x
  · rw [if_pos h]; exact h.symm
  · rw [if_neg h]; rfl
theorem index_step (x y : UInt8) : ∀ (l : List UInt8), 0 < l.count x → ∃ j : Nat, Lib.index l [x] = (j : Int) ∧ j + 1 ≤ l.length ∧ l.count x = (l.drop (j + 1)).count x + 1 ∧ repL x y l = l.take j ++ [y] ++ repL x y (l.drop (j + 1))
  | [], h => by simp at h
  | c :: r, h => by
    rw [Lib.index_one]
    by_cases e : c = x
    · subst e
      exact ⟨0, by simp [Lib.indexByte], by simp, by simp, by simp [repL]⟩
    · rw [List.count_cons_of_ne e] at h
      obtain ⟨j, h1, h2, h3, h4⟩ := index_step x y r h
      rw [Lib.index_one] at h1
      refine ⟨j + 1, ?_, by simpa using h2, by rw [List.count_cons_of_ne e, h3]; rfl, ?_⟩
      · simp [Lib.indexByte, e, h1] <;> omega
      · have e2 : repL x y (c :: r) = c :: repL x y r := by unfold repL; rw [List.map_cons, if_neg e]
        rw [e2, h4]; rfl
theorem count_call (s : ByteArray) (c : UInt8) (w : World) : Calls Tryz.prog 115 #[.string s, .string ⟨#[c]⟩] w fun e w' => e = .returned (.int .i64 (s.data.toList.count c : Nat)) ∧ w' = w := by
  refine (Tryz.strings_Count_one s c w).mono fun e w' ⟨he, hw⟩ => ⟨?_, hw⟩
  rw [he]
  rfl
theorem count_notin (x : UInt8) (l : List UInt8) (h : l.count x = 0) : x ∉ l := fun hm => by have := List.count_pos_iff.2 hm; omega
set_option maxHeartbeats 4000000 in
set_option maxRecDepth 100000 in
theorem replace_one (s : ByteArray) (x y : UInt8) (w : World) (hs : s.size < 4294967281) :
    Calls Tryz.prog 132 #[.string s, .string ⟨#[x]⟩, .string ⟨#[y]⟩, .int .i64 (-1)] w fun e w' => e = .returned (.string ⟨(repL x y s.data.toList).toArray⟩) ∧ Below w.heap.size w w' := by
  have hsl : s.data.toList.length = s.size := by rw [Array.length_toList]; rfl
  by_cases hxy : x = y
  · subst hxy
    have hbeq : (x == x) = true := beq_self_eq_true _
    rw [repL_same]
    go_enter Tryz.func132, Tryz.ntmps132
    go_wp2
    go_ret
    exact ⟨by cases s; rfl, Below.refl _ _⟩
  · have hbeq : (x == y) = false := beq_eq_false_iff_ne.2 hxy
    obtain ⟨K, hK⟩ : ∃ K, s.data.toList.count x = K := ⟨_, rfl⟩
    have hC := count_call s x w
    rw [hK] at hC
    have hKl : K ≤ s.size := by rw [← hK, ← hsl]; exact List.count_le_length
    by_cases hK0 : K = 0
    · subst hK0
      have hr := repL_none x y _ (count_notin x _ hK)
      have HR := Lib.hid hr
      clear hr
      go_enter Tryz.func132, Tryz.ntmps132
      go_wp2_with (go_at_call 115; refine hC.mono ?_; rintro e w' ⟨rfl, rfl⟩)
      go_ret
      exact ⟨by rw [HR.out]; cases s; rfl, Below.refl _ _⟩
    · have hKz : ((K : Int) == 0) = false := beq_eq_false_iff_ne.2 (by omega)
      have hx1 : (⟨#[x]⟩ : ByteArray).size = 1 := rfl
      have hy1 : (⟨#[y]⟩ : ByteArray).size = 1 := rfl
      have HK := Lib.hid hK
      clear hK
      go_enter Tryz.func132, Tryz.ntmps132
      go_wp2_with (go_at_call 115; refine hC.mono ?_; rintro e w' ⟨rfl, rfl⟩)
      refine (Tryz.Builder_Grow_fresh w'.heap.size w'.heap.size s.size _ (Nat.le_refl _) (heap_alloc_new w' _) (by simp) (by omega)).mono ?_
      rintro e w1 ⟨rfl, hb0, hb1⟩
      have H1 := Lib.hid (Or.inr hb0 : Lib.IsBuilder 88 5 w'.heap.size w'.heap.size (Lib.byteCells []) w1)
      have Hb1 := Lib.hid (((Below.refl w'.heap.size w').alloc (Nat.le_refl _) _).trans hb1)
      clear hb0 hb1
      go_wp2_with fail
      go_loopw [11, 12, 53] (fun v11 _ v53 wx => ∃ (i start : Nat) (acc : List UInt8), v53 = .int .i64 (i : Int) ∧ v11 = .int .i64 (start : Int) ∧ i ≤ K ∧ start ≤ s.size ∧ (s.data.toList.drop start).count x + i = K ∧ acc.length = start ∧ acc ++ repL x y (s.data.toList.drop start) = repL x y s.data.toList ∧
        Lib.IsBuilder 88 5 w'.heap.size w'.heap.size (Lib.byteCells acc) wx ∧ Below w'.heap.size w' wx) (fun _ _ v53 _ => K - (intOf v53).toNat)
      case atStart => exact ⟨0, 0, [], rfl, rfl, Nat.zero_le _, Nat.zero_le _, by rw [List.drop_zero, HK.out]; rfl, rfl, by rw [List.drop_zero, List.nil_append], H1.out, Hb1.out⟩
      case round =>
        clear H1 Hb1
        obtain ⟨i, start, acc, rfl, rfl, hi, hst, hcn, hal, hac, hB, hW⟩ := hrel
        have hBw : w'.heap.size ≤ wr.heap.size := hW.size
        have c1 : (0 : Int) ≤ (start : Int) := by omega
        have c2 : (start : Int) ≤ (s.size : Int) := by omega
        have hcl : (Lib.byteCells acc).length = start := by rw [Lib.byteCells_length]; exact hal
        by_cases hit : i < K
        · obtain ⟨j, hj, hjl, hcj, hrj⟩ := index_step x y (s.data.toList.drop start) (by omega)
          rw [List.length_drop, hsl] at hjl
          rw [List.drop_drop] at hcj hrj
          have c3 : (start : Int) ≤ (start : Int) + (j : Int) := by omega
          have c4 : (start : Int) + (j : Int) ≤ (s.size : Int) := by omega
          have hnext : Lib.byteCells acc ++ Lib.strCells (s.extract start (start + j)) ++ Lib.strCells ⟨#[y]⟩ = Lib.byteCells (acc ++ (s.data.toList.drop start).take j ++ [y]) := by
            rw [Lib.strCells_eq, Lib.strCells_eq, Lib.extract_data, Nat.add_sub_cancel_left, ← Lib.byteCells_append, ← Lib.byteCells_append]
          have hlen2 : (acc ++ (s.data.toList.drop start).take j ++ [y]).length = start + (j + 1) := by
            rw [List.length_append, List.length_append, List.length_take, List.length_drop, hsl, hal]; simp; omega
          have hac2 : (acc ++ (s.data.toList.drop start).take j ++ [y]) ++ repL x y (s.data.toList.drop (start + (j + 1))) = repL x y s.data.toList := by
            rw [← hac, hrj]; simp only [List.append_assoc]
          have hix : Lib.indexB (s.extract start s.size) ⟨#[x]⟩ = (j : Int) := by
            show Lib.index (s.extract start s.size).data.toList [x] = _
            rw [Lib.extract_to_end]; exact hj
          have hes : (s.extract start (start + j)).size = j := by rw [ByteArray.size_extract]; omega
          have H1 := Lib.hid hB; have H2 := Lib.hid hW; have H3 := Lib.hid hnext; have H4 := Lib.hid hac2; have H5 := Lib.hid hcj; have H6 := Lib.hid hcn; have H7 := Lib.hid hlen2; have H8 := Lib.hid hcl; have H9 := Lib.hid hes
          clear hB hW hnext hac2 hcj hcn hlen2 hcl hac hj hrj hal hes
          go_wp2_with (first | (go_at_call 116; refine (split_index _ x _).mono ?_; rintro e w'' ⟨rfl, hw⟩; rw [hw, hix]))
          refine (Bld.writeString w'.heap.size w'.heap.size _ (s.extract start (start + j)) wr H1.out (by rw [H8.out, H9.out]; omega) hBw).mono ?_
          rintro e w3 ⟨rfl, h3, hb3, _⟩
          have hBw3 : w'.heap.size ≤ w3.heap.size := Nat.le_trans hBw hb3.size
          have H10 := Lib.hid h3
          have H11 := Lib.hid hb3
          clear h3 hb3
          go_wp2_with fail
          refine (Bld.writeString w'.heap.size w'.heap.size _ ⟨#[y]⟩ w3 H10.out (by rw [List.length_append, H8.out, Lib.strCells_length, H9.out]; show _ + 1 ≤ _; omega) hBw3).mono ?_
          rintro e w4 ⟨rfl, h4, hb4, _⟩
          rw [H3.out] at h4
          have H12 := Lib.hid h4
          have H13 := Lib.hid ((H2.out.trans H11.out).trans hb4)
          clear h4 hb4
          go_wp2
          exact ⟨⟨i + 1, start + (j + 1), _, rfl, by congr 1, by omega, by omega, by have := H5.out; have := H6.out; omega, H7.out, H4.out, H12.out, H13.out⟩, by simp [intOf]; omega⟩
        · have hge : decide (i < K) = false := decide_eq_false hit
          have hr0 : repL x y (s.data.toList.drop start) = s.data.toList.drop start := repL_none x y _ (count_notin x _ (by omega))
          rw [hr0] at hac
          have HA := Lib.hid hac; have H1 := Lib.hid hB; have H2 := Lib.hid hW; have H8 := Lib.hid hcl
          clear hac hB hW hcl hr0 hcn hal
          go_wp2_with fail
          refine (Bld.writeString w'.heap.size w'.heap.size _ _ wr H1.out (by rw [H8.out, ByteArray.size_extract]; omega) hBw).mono ?_
          rintro e w3 ⟨rfl, h3, hb3, _⟩
          rw [Lib.strCells_eq, Lib.extract_to_end, ← Lib.byteCells_append, HA.out] at h3
          have H3 := Lib.hid h3
          have Hb3 := Lib.hid (H2.out.trans hb3)
          have hBw3 : w'.heap.size ≤ w3.heap.size := Hb3.out.size
          clear h3 hb3
          go_wp2_with fail
          refine (Tryz.Builder_String_any w'.heap.size w'.heap.size _ w3 H3.out hBw3).mono ?_
          rintro e w5 ⟨rfl, hb5⟩
          have Hb5 := Lib.hid (Hb3.out.trans hb5)
          clear hb5
          go_wp2
          go_ret
          exact ⟨rfl, Hb5.out⟩
def strings_ReplaceAll.f (a0 a1 a2 : ByteArray) : Option ByteArray := if a1.size = 1 ∧ a2.size = 1 ∧ a0.size < 4294967281 then some ⟨(repL (a1.data.toList.headD 0) (a2.data.toList.headD 0) a0.data.toList).toArray⟩ else none
set_option maxHeartbeats 1000000 in
theorem strings_ReplaceAll.calls (a0 a1 a2 : ByteArray) (r1 : ByteArray) (w : World) (h : strings_ReplaceAll.f a0 a1 a2 = some r1) :
    Calls Tryz.prog 98 #[.string a0, .string a1, .string a2] w fun e w' => e = .returned (.string r1) ∧ Below w.heap.size w w' := by
  unfold strings_ReplaceAll.f at h
  split at h
  · rename_i hh
    obtain ⟨h1, h2, hs⟩ := hh
    obtain ⟨x, rfl⟩ := Lib.one_byte a1 h1
    obtain ⟨y, rfl⟩ := Lib.one_byte a2 h2
    obtain rfl := Option.some.inj h
    have HQ := Lib.hid (replace_one a0 x y w hs)
    go_enter Tryz.func98, Tryz.ntmps98
    go_wp2_with (go_at_call 132; refine (HQ.out).mono ?_; rintro e w' ⟨rfl, hb⟩)
    go_ret
    exact ⟨rfl, hb⟩
  · cases h
end Go.Proofs.YtmimipgmhgalaaaGreatDoor.PAll
end
section
namespace Go.Proofs.YtmimipgmhgalaaaGreatDoor.PAll
open Go.RowKit Go.Proofs.YtmimipgmhgalaaaGreatDoorW.PrintWords Go.Proofs.YtmimipgmhgalaaaGreatDoorW.PrintLast Go.Proofs.YtmimipgmhgalaaaGreatDoorW.PrintMore
attribute [local go_sem] max2_int min2_int max_two min_two max_three min_three max_four min_four
set_option linter.unusedVariables false
set_option linter.unusedSimpArgs false
def client_common.j0 : Nat → ByteArray → Bool → Option (ByteArray × Bool)
 | 0, _, _ => none
 | k + 1, x0, x15 => if x15 = true then (some ((⟨#[]⟩ : ByteArray), false)) else ((strings_TrimSuffix.f x0 (⟨#[61]⟩ : ByteArray)).bind fun t200 => ((strings_TrimSuffix.f t200 (⟨#[61]⟩ : ByteArray)).bind fun t201 => ((strings_ReplaceAll.f t201 (⟨#[43]⟩ : ByteArray) (⟨#[45]⟩ : ByteArray)).bind fun t202 => ((strings_ReplaceAll.f t202 (⟨#[47]⟩ : ByteArray) (⟨#[95]⟩ : ByteArray)).bind fun t203 => ((digest_FromBase64.f k t203).bind fun bt204 => (if bt204.2.1 = 0 then (some (strOfNums bt204.1, ((wrap64 ((wrap64 (Int.tdiv (wrap64 ((t203.size : Int) + 3)) 4)) * 4)) == (x0.size : Int)))) else (some (strOfNums bt204.1, false))))))))
def client_common.f (k : Nat) (a0 : ByteArray) : Option (ByteArray × Bool) := if ((a0.size : Int) % 4) = 0 then ((strings_ContainsAny.f a0 (⟨#[45, 95]⟩ : ByteArray)).bind fun t199 => (client_common.j0 k a0 t199)) else (client_common.j0 k a0 true)
set_option maxHeartbeats 8000000 in
set_option maxRecDepth 100000 in
theorem client_common.calls (k : Nat) (a0 : ByteArray) (r1 : ByteArray) (r2 : Bool) (w : World) (h : client_common.f k a0 = some (r1, r2)) :
 Calls Tryz.prog 63 #[.string a0] w fun e w' => e = .returned (.tuple #[.string r1, .bool r2]) ∧ Below w.heap.size w w' := by
 have HB := Aside0.mk (Below.refl w.heap.size w)
 have H : (if ((a0.size : Int) % 4) = 0 then ((strings_ContainsAny.f a0 (⟨#[45, 95]⟩ : ByteArray)).bind fun t199 => (client_common.j0 k a0 t199)) else (client_common.j0 k a0 true)) = some (r1, r2) := h
 clear h
 have HC2 := Aside0.mk H
 clear H
 go_enter Tryz.func63, Tryz.ntmps63
 go_upto_region 1 with (fail)
 go_cut [15] (fun v15 wc => ∃ (kq : Nat) (x15_1 : Bool), v15 = .bool x15_1 ∧ Aside0 (client_common.j0 kq a0 x15_1 = some (r1, r2)) ∧ Aside0 (kq ≤ k) ∧ Aside0 (Below w.heap.size w wc))
 case first =>
  have H := HC2.out
  clear HC2
  by_cases c3 : ((a0.size : Int) % 4) = 0
  · rw [if_pos c3] at H
    have c3b0 : (((a0.size : Int) % 4) == 0) = true := beq_iff_eq.mpr c3
    have c3b1 : (((a0.size : Int) % 4) != 0) = false := bne_eq_false_iff_eq.mpr c3
    clear c3
    replace H := Option.bind_eq_some_iff.mp H
    obtain ⟨t199, A40, H⟩ := H
    replace H : (client_common.j0 k a0 t199) = some (r1, r2) := H
    have A4 := Aside0.mk A40
    clear A40
    have H' := Aside0.mk H
    clear H
    go_wp2_with (first | (go_at_call 96; (with_reducible refine (strings_ContainsAny.calls a0 (⟨#[45, 95]⟩ : ByteArray) t199 _ A4.out).mono ?_); rintro e w5 ⟨rfl, hb⟩; replace HB := Aside0.mk (below_step HB.out hb); clear hb))
    go_meet
    case rel => exact ⟨_, (t199), rfl, H', ⟨by (omega)⟩, ⟨HB.out⟩⟩
  · rw [if_neg c3] at H
    have c3b0 : (((a0.size : Int) % 4) == 0) = false := beq_eq_false_iff_ne.mpr c3
    have c3b1 : (((a0.size : Int) % 4) != 0) = true := bne_iff_ne.mpr c3
    have H' := Aside0.mk H
    clear H
    go_wp2
    go_meet
    case rel => exact ⟨_, (true), rfl, H', ⟨by (omega)⟩, ⟨HB.out⟩⟩
 case rest =>
  clear HC2
  obtain ⟨kq, x15_1, rfl, HA, HJ1, HB⟩ := hcut
  cases kq with
  | zero => exact absurd HA.out (by simp [client_common.j0])
  | succ kj1 =>
   have H := HA.out
   clear HA
   simp only [client_common.j0] at H
   by_cases c6 : x15_1 = true
   · subst c6
     have H1 : (some ((⟨#[]⟩ : ByteArray), false)) = some (r1, r2) := by rw [if_pos rfl] at H; exact H
     clear H
     have H := H1
     clear H1
     simp only [Option.some.injEq, Prod.mk.injEq] at H
     obtain ⟨rfl, rfl⟩ := H
     go_wp2
     go_ret2
     exact ⟨by (rfl), by (with_reducible exact HB.out)⟩
   · replace c6 := Bool.eq_false_iff.mpr c6
     subst c6
     have H1 : ((strings_TrimSuffix.f a0 (⟨#[61]⟩ : ByteArray)).bind fun t200 => ((strings_TrimSuffix.f t200 (⟨#[61]⟩ : ByteArray)).bind fun t201 => ((strings_ReplaceAll.f t201 (⟨#[43]⟩ : ByteArray) (⟨#[45]⟩ : ByteArray)).bind fun t202 => ((strings_ReplaceAll.f t202 (⟨#[47]⟩ : ByteArray) (⟨#[95]⟩ : ByteArray)).bind fun t203 => ((digest_FromBase64.f kj1 t203).bind fun bt204 => (if bt204.2.1 = 0 then (some (strOfNums bt204.1, ((wrap64 ((wrap64 (Int.tdiv (wrap64 ((t203.size : Int) + 3)) 4)) * 4)) == (a0.size : Int)))) else (some (strOfNums bt204.1, false)))))))) = some (r1, r2) := by rw [if_neg (show ¬ (false = true) by decide)] at H; exact H
     clear H
     have H := H1
     clear H1
     replace H := Option.bind_eq_some_iff.mp H
     obtain ⟨t200, A70, H⟩ := H
     replace H : ((strings_TrimSuffix.f t200 (⟨#[61]⟩ : ByteArray)).bind fun t201 => ((strings_ReplaceAll.f t201 (⟨#[43]⟩ : ByteArray) (⟨#[45]⟩ : ByteArray)).bind fun t202 => ((strings_ReplaceAll.f t202 (⟨#[47]⟩ : ByteArray) (⟨#[95]⟩ : ByteArray)).bind fun t203 => ((digest_FromBase64.f kj1 t203).bind fun bt204 => (if bt204.2.1 = 0 then (some (strOfNums bt204.1, ((wrap64 ((wrap64 (Int.tdiv (wrap64 ((t203.size : Int) + 3)) 4)) * 4)) == (a0.size : Int)))) else (some (strOfNums bt204.1, false))))))) = some (r1, r2) := H
     have A7 := Aside0.mk A70
     clear A70
     replace H := Option.bind_eq_some_iff.mp H
     obtain ⟨t201, A80, H⟩ := H
     replace H : ((strings_ReplaceAll.f t201 (⟨#[43]⟩ : ByteArray) (⟨#[45]⟩ : ByteArray)).bind fun t202 => ((strings_ReplaceAll.f t202 (⟨#[47]⟩ : ByteArray) (⟨#[95]⟩ : ByteArray)).bind fun t203 => ((digest_FromBase64.f kj1 t203).bind fun bt204 => (if bt204.2.1 = 0 then (some (strOfNums bt204.1, ((wrap64 ((wrap64 (Int.tdiv (wrap64 ((t203.size : Int) + 3)) 4)) * 4)) == (a0.size : Int)))) else (some (strOfNums bt204.1, false)))))) = some (r1, r2) := H
     have A8 := Aside0.mk A80
     clear A80
     replace H := Option.bind_eq_some_iff.mp H
     obtain ⟨t202, A90, H⟩ := H
     replace H : ((strings_ReplaceAll.f t202 (⟨#[47]⟩ : ByteArray) (⟨#[95]⟩ : ByteArray)).bind fun t203 => ((digest_FromBase64.f kj1 t203).bind fun bt204 => (if bt204.2.1 = 0 then (some (strOfNums bt204.1, ((wrap64 ((wrap64 (Int.tdiv (wrap64 ((t203.size : Int) + 3)) 4)) * 4)) == (a0.size : Int)))) else (some (strOfNums bt204.1, false))))) = some (r1, r2) := H
     have A9 := Aside0.mk A90
     clear A90
     replace H := Option.bind_eq_some_iff.mp H
     obtain ⟨t203, A100, H⟩ := H
     replace H : ((digest_FromBase64.f kj1 t203).bind fun bt204 => (if bt204.2.1 = 0 then (some (strOfNums bt204.1, ((wrap64 ((wrap64 (Int.tdiv (wrap64 ((t203.size : Int) + 3)) 4)) * 4)) == (a0.size : Int)))) else (some (strOfNums bt204.1, false)))) = some (r1, r2) := H
     have A10 := Aside0.mk A100
     clear A100
     replace H := Option.bind_eq_some_iff.mp H
     obtain ⟨⟨t204, t205, t206⟩, A110, H⟩ := H
     replace H : (if t205 = 0 then (some (strOfNums t204, ((wrap64 ((wrap64 (Int.tdiv (wrap64 ((t203.size : Int) + 3)) 4)) * 4)) == (a0.size : Int)))) else (some (strOfNums t204, false))) = some (r1, r2) := H
     have A11 := Aside0.mk A110
     clear A110
     by_cases c12 : t205 = 0
     · rw [if_pos c12] at H
       have c12b0 : (t205 == 0) = true := beq_iff_eq.mpr c12
       have c12b1 : (t205 != 0) = false := bne_eq_false_iff_eq.mpr c12
       clear c12
       simp only [Option.some.injEq, Prod.mk.injEq] at H
       obtain ⟨rfl, rfl⟩ := H
       go_wp2_with (first | ((with_reducible refine gate_callee (f := 97) rfl ?_); refine goesL_ (some 17) rfl rfl Tryz.func97 (by kernel_rfl) rfl #[.string a0, .string (⟨#[61]⟩ : ByteArray)] rfl (by ((try simp only [List.map_toArray, List.map_cons, List.map_nil]); (rfl))) ?_; (with_reducible refine (strings_TrimSuffix.calls a0 (⟨#[61]⟩ : ByteArray) t200 _ A7.out).mono ?_); rintro e w13 ⟨rfl, hb⟩; refine ⟨_, rfl, ?_⟩; replace HB := Aside0.mk (below_step HB.out hb); clear hb) | ((with_reducible refine gate_callee (f := 97) rfl ?_); refine goesL_ (some 18) rfl rfl Tryz.func97 (by kernel_rfl) rfl #[.string t200, .string (⟨#[61]⟩ : ByteArray)] rfl (by ((try simp only [List.map_toArray, List.map_cons, List.map_nil]); (rfl))) ?_; (with_reducible refine (strings_TrimSuffix.calls t200 (⟨#[61]⟩ : ByteArray) t201 _ A8.out).mono ?_); rintro e w14 ⟨rfl, hb⟩; refine ⟨_, rfl, ?_⟩; replace HB := Aside0.mk (below_step HB.out hb); clear hb) | ((with_reducible refine gate_callee (f := 98) rfl ?_); refine goesL_ (some 20) rfl rfl Tryz.func98 (by kernel_rfl) rfl #[.string t201, .string (⟨#[43]⟩ : ByteArray), .string (⟨#[45]⟩ : ByteArray)] rfl (by ((try simp only [List.map_toArray, List.map_cons, List.map_nil]); (rfl))) ?_; (with_reducible refine (strings_ReplaceAll.calls t201 (⟨#[43]⟩ : ByteArray) (⟨#[45]⟩ : ByteArray) t202 _ A9.out).mono ?_); rintro e w15 ⟨rfl, hb⟩; refine ⟨_, rfl, ?_⟩; replace HB := Aside0.mk (below_step HB.out hb); clear hb) | ((with_reducible refine gate_callee (f := 98) rfl ?_); refine goesL_ (some 21) rfl rfl Tryz.func98 (by kernel_rfl) rfl #[.string t202, .string (⟨#[47]⟩ : ByteArray), .string (⟨#[95]⟩ : ByteArray)] rfl (by ((try simp only [List.map_toArray, List.map_cons, List.map_nil]); (rfl))) ?_; (with_reducible refine (strings_ReplaceAll.calls t202 (⟨#[47]⟩ : ByteArray) (⟨#[95]⟩ : ByteArray) t203 _ A10.out).mono ?_); rintro e w16 ⟨rfl, hb⟩; refine ⟨_, rfl, ?_⟩; replace HB := Aside0.mk (below_step HB.out hb); clear hb) | ((with_reducible refine gate_callee (f := 99) rfl ?_); refine goesL_ (some 24) rfl rfl Tryz.func99 (by kernel_rfl) rfl #[.string t203] rfl (by ((try simp only [List.map_toArray, List.map_cons, List.map_nil]); (rfl))) ?_; (with_reducible refine (digest_FromBase64.calls kj1 t203 t204 t205 t206 _ A11.out).mono ?_); rintro e w17 ⟨v207, rfl, ho0, hb⟩; refine ⟨_, rfl, ?_⟩; have HO208 := Aside0.mk (Kd.R_lower ho0 (below_size HB.out)); replace HB := Aside0.mk (below_step HB.out hb); clear hb ho0; have hcv18 := own_string (P := Tryz.prog) Tryz.underlying79 Tryz.underlying5 Tryz.underlying9 (Kd.own_of_R HO208.out)))
       go_ret2
       exact ⟨by (rfl), by (with_reducible exact HB.out)⟩
     · rw [if_neg c12] at H
       have c12b0 : (t205 == 0) = false := beq_eq_false_iff_ne.mpr c12
       have c12b1 : (t205 != 0) = true := bne_iff_ne.mpr c12
       simp only [Option.some.injEq, Prod.mk.injEq] at H
       obtain ⟨rfl, rfl⟩ := H
       go_wp2_with (first | ((with_reducible refine gate_callee (f := 97) rfl ?_); refine goesL_ (some 17) rfl rfl Tryz.func97 (by kernel_rfl) rfl #[.string a0, .string (⟨#[61]⟩ : ByteArray)] rfl (by ((try simp only [List.map_toArray, List.map_cons, List.map_nil]); (rfl))) ?_; (with_reducible refine (strings_TrimSuffix.calls a0 (⟨#[61]⟩ : ByteArray) t200 _ A7.out).mono ?_); rintro e w19 ⟨rfl, hb⟩; refine ⟨_, rfl, ?_⟩; replace HB := Aside0.mk (below_step HB.out hb); clear hb) | ((with_reducible refine gate_callee (f := 97) rfl ?_); refine goesL_ (some 18) rfl rfl Tryz.func97 (by kernel_rfl) rfl #[.string t200, .string (⟨#[61]⟩ : ByteArray)] rfl (by ((try simp only [List.map_toArray, List.map_cons, List.map_nil]); (rfl))) ?_; (with_reducible refine (strings_TrimSuffix.calls t200 (⟨#[61]⟩ : ByteArray) t201 _ A8.out).mono ?_); rintro e w20 ⟨rfl, hb⟩; refine ⟨_, rfl, ?_⟩; replace HB := Aside0.mk (below_step HB.out hb); clear hb) | ((with_reducible refine gate_callee (f := 98) rfl ?_); refine goesL_ (some 20) rfl rfl Tryz.func98 (by kernel_rfl) rfl #[.string t201, .string (⟨#[43]⟩ : ByteArray), .string (⟨#[45]⟩ : ByteArray)] rfl (by ((try simp only [List.map_toArray, List.map_cons, List.map_nil]); (rfl))) ?_; (with_reducible refine (strings_ReplaceAll.calls t201 (⟨#[43]⟩ : ByteArray) (⟨#[45]⟩ : ByteArray) t202 _ A9.out).mono ?_); rintro e w21 ⟨rfl, hb⟩; refine ⟨_, rfl, ?_⟩; replace HB := Aside0.mk (below_step HB.out hb); clear hb) | ((with_reducible refine gate_callee (f := 98) rfl ?_); refine goesL_ (some 21) rfl rfl Tryz.func98 (by kernel_rfl) rfl #[.string t202, .string (⟨#[47]⟩ : ByteArray), .string (⟨#[95]⟩ : ByteArray)] rfl (by ((try simp only [List.map_toArray, List.map_cons, List.map_nil]); (rfl))) ?_; (with_reducible refine (strings_ReplaceAll.calls t202 (⟨#[47]⟩ : ByteArray) (⟨#[95]⟩ : ByteArray) t203 _ A10.out).mono ?_); rintro e w22 ⟨rfl, hb⟩; refine ⟨_, rfl, ?_⟩; replace HB := Aside0.mk (below_step HB.out hb); clear hb) | ((with_reducible refine gate_callee (f := 99) rfl ?_); refine goesL_ (some 24) rfl rfl Tryz.func99 (by kernel_rfl) rfl #[.string t203] rfl (by ((try simp only [List.map_toArray, List.map_cons, List.map_nil]); (rfl))) ?_; (with_reducible refine (digest_FromBase64.calls kj1 t203 t204 t205 t206 _ A11.out).mono ?_); rintro e w23 ⟨v207, rfl, ho0, hb⟩; refine ⟨_, rfl, ?_⟩; have HO208 := Aside0.mk (Kd.R_lower ho0 (below_size HB.out)); replace HB := Aside0.mk (below_step HB.out hb); clear hb ho0; have hcv24 := own_string (P := Tryz.prog) Tryz.underlying79 Tryz.underlying5 Tryz.underlying9 (Kd.own_of_R HO208.out)))
       go_ret2
       exact ⟨by (rfl), by (with_reducible exact HB.out)⟩
def client_Basic.j0 : Nat → ByteArray → Bool → Option (ByteArray × ByteArray × Int)
 | 0, _, _ => none
 | k + 1, x0, x34 => if x34 = true then (some ((⟨#[]⟩ : ByteArray), (⟨#[]⟩ : ByteArray), 113)) else (if 5 ≤ (x0.size : Int) then ((strings_TrimLeft.f (x0.extract 5 x0.size) (⟨#[32]⟩ : ByteArray)).bind fun t210 => ((client_common.f k t210).bind fun bt211 => ((strings_Cut.f bt211.1 (⟨#[58]⟩ : ByteArray)).bind fun bt213 => ((urlform_Unescape.f bt213.1).bind fun bt216 => ((urlform_Unescape.f bt213.2.1).bind fun bt219 => (if bt211.2 = true then (if bt213.2.2 = true then (if bt216.2.1 = 0 then (if bt219.2.1 = 0 then (some (bt216.1, bt219.1, 0)) else (some ((⟨#[]⟩ : ByteArray), (⟨#[]⟩ : ByteArray), 113))) else (some ((⟨#[]⟩ : ByteArray), (⟨#[]⟩ : ByteArray), 113))) else (some ((⟨#[]⟩ : ByteArray), (⟨#[]⟩ : ByteArray), 113))) else (some ((⟨#[]⟩ : ByteArray), (⟨#[]⟩ : ByteArray), 113)))))))) else (none))
def client_Basic.f (k : Nat) (a0 : ByteArray) : Option (ByteArray × ByteArray × Int) := if (a0.size : Int) > 1024 then (client_Basic.j0 k a0 true) else (if (a0.size : Int) < 6 then (client_Basic.j0 k a0 true) else (if 0 ≤ 5 then (if 5 ≤ (a0.size : Int) then ((strings_EqualFold.f (a0.extract 0 5) (⟨#[98, 97, 115, 105, 99]⟩ : ByteArray)).bind fun t209 => (if t209 = true then (if 5 < (a0.size : Int) then (client_Basic.j0 k a0 ((bt a0 5) != 32)) else (none)) else (client_Basic.j0 k a0 true))) else (none)) else (none)))
set_option maxHeartbeats 8000000 in
set_option maxRecDepth 100000 in
theorem client_Basic.calls (k : Nat) (a0 : ByteArray) (r1 : ByteArray) (r2 : ByteArray) (r3 : Int) (w : World) (h : client_Basic.f k a0 = some (r1, r2, r3)) :
 Calls Tryz.prog 32 #[.string a0] w fun e w' => e = .returned (.tuple #[.string r1, .string r2, .int .i64 r3]) ∧ Below w.heap.size w w' := by
 have HB := Aside0.mk (Below.refl w.heap.size w)
 have H : (if (a0.size : Int) > 1024 then (client_Basic.j0 k a0 true) else (if (a0.size : Int) < 6 then (client_Basic.j0 k a0 true) else (if 0 ≤ 5 then (if 5 ≤ (a0.size : Int) then ((strings_EqualFold.f (a0.extract 0 5) (⟨#[98, 97, 115, 105, 99]⟩ : ByteArray)).bind fun t209 => (if t209 = true then (if 5 < (a0.size : Int) then (client_Basic.j0 k a0 ((bt a0 5) != 32)) else (none)) else (client_Basic.j0 k a0 true))) else (none)) else (none)))) = some (r1, r2, r3) := h
 clear h
 have HC2 := Aside0.mk H
 clear H
 go_enter Tryz.func32, Tryz.ntmps32
 go_upto_region 1 with (fail)
 go_cut [34] (fun v34 wc => ∃ (kq : Nat) (x34_1 : Bool), v34 = .bool x34_1 ∧ Aside0 (client_Basic.j0 kq a0 x34_1 = some (r1, r2, r3)) ∧ Aside0 (kq ≤ k) ∧ Aside0 (Below w.heap.size w wc))
 case first =>
  have H := HC2.out
  clear HC2
  by_cases c3 : (a0.size : Int) > 1024
  · rw [if_pos c3] at H
    have c3b0 : decide (1024 < (a0.size : Int)) = true := decide_eq_true c3
    have c3b1 : decide (1024 < a0.size) = true := decide_eq_true (by omega)
    clear c3
    have H' := Aside0.mk H
    clear H
    go_wp2
    go_meet
    case rel => exact ⟨_, (true), rfl, H', ⟨by (omega)⟩, ⟨HB.out⟩⟩
  · rw [if_neg c3] at H
    have c3b0 : decide (1024 < (a0.size : Int)) = false := decide_eq_false c3
    have c3b1 : decide (1024 < a0.size) = false := decide_eq_false (by omega)
    clear c3
    by_cases c4 : (a0.size : Int) < 6
    · rw [if_pos c4] at H
      have c4b0 : decide ((a0.size : Int) < 6) = true := decide_eq_true c4
      have c4b1 : decide (a0.size < 6) = true := decide_eq_true (by omega)
      clear c4
      have H' := Aside0.mk H
      clear H
      go_wp2
      go_meet
      case rel => exact ⟨_, (true), rfl, H', ⟨by (omega)⟩, ⟨HB.out⟩⟩
    · rw [if_neg c4] at H
      have c4b0 : decide ((a0.size : Int) < 6) = false := decide_eq_false c4
      have c4b1 : decide (a0.size < 6) = false := decide_eq_false (by omega)
      clear c4
      by_cases c5 : 0 ≤ 5
      · rw [if_pos c5] at H
        have c5b0 := eq_true c5
        have c5b1 : decide (0 ≤ 5) = true := decide_eq_true c5
        clear c5
        by_cases c6 : 5 ≤ (a0.size : Int)
        · rw [if_pos c6] at H
          have c6b0 := eq_true c6
          have c6b1 : decide (5 ≤ (a0.size : Int)) = true := decide_eq_true c6
          clear c6
          replace H := Option.bind_eq_some_iff.mp H
          obtain ⟨t209, A70, H⟩ := H
          replace H : (if t209 = true then (if 5 < (a0.size : Int) then (client_Basic.j0 k a0 ((bt a0 5) != 32)) else (none)) else (client_Basic.j0 k a0 true)) = some (r1, r2, r3) := H
          have A7 := Aside0.mk A70
          clear A70
          by_cases c8 : t209 = true
          · subst c8
            have H1 : (if 5 < (a0.size : Int) then (client_Basic.j0 k a0 ((bt a0 5) != 32)) else (none)) = some (r1, r2, r3) := by rw [if_pos rfl] at H; exact H
            clear H
            have H := H1
            clear H1
            by_cases c9 : 5 < (a0.size : Int)
            · rw [if_pos c9] at H
              have c9b0 : decide (5 < (a0.size : Int)) = true := decide_eq_true c9
              have c9b1 : decide (5 < a0.size) = true := decide_eq_true (by omega)
              clear c9
              have H' := Aside0.mk H
              clear H
              go_wp2_with (first | (go_at_call 62; (with_reducible refine (strings_EqualFold.calls (a0.extract 0 5) (⟨#[98, 97, 115, 105, 99]⟩ : ByteArray) true _ A7.out).mono ?_); rintro e w11 ⟨rfl, hb⟩; replace HB := Aside0.mk (below_step HB.out hb); clear hb; have p10 : 0 ≤ (5 : Int) := (by omega); have q10 : 5 < a0.size := (by have : (5 : Int) < (a0.size : Int) := of_decide_eq_true (by assumption); omega); have hx10 : ∀ h : 5 < a0.size, ((a0[5]'h).toNat : Int) = bt a0 5 := bt_at a0 5; clear p10; have qi10 : (5 < (a0.size : Int)) = True := eq_true (of_decide_eq_true (by assumption)); replace q10 := eq_true q10))
              go_meet
              case rel => exact ⟨_, (((bt a0 5) != 32)), rfl, H', ⟨by (omega)⟩, ⟨HB.out⟩⟩
            · rw [if_neg c9] at H
              exact absurd H (by simp)
          · replace c8 := Bool.eq_false_iff.mpr c8
            subst c8
            have H1 : (client_Basic.j0 k a0 true) = some (r1, r2, r3) := by rw [if_neg (show ¬ (false = true) by decide)] at H; exact H
            clear H
            have H := H1
            clear H1
            have H' := Aside0.mk H
            clear H
            go_wp2_with (first | (go_at_call 62; (with_reducible refine (strings_EqualFold.calls (a0.extract 0 5) (⟨#[98, 97, 115, 105, 99]⟩ : ByteArray) false _ A7.out).mono ?_); rintro e w12 ⟨rfl, hb⟩; replace HB := Aside0.mk (below_step HB.out hb); clear hb))
            go_meet
            case rel => exact ⟨_, (true), rfl, H', ⟨by (omega)⟩, ⟨HB.out⟩⟩
        · rw [if_neg c6] at H
          exact absurd H (by simp)
      · rw [if_neg c5] at H
        exact absurd H (by simp)
 case rest =>
  clear HC2
  obtain ⟨kq, x34_1, rfl, HA, HJ1, HB⟩ := hcut
  cases kq with
  | zero => exact absurd HA.out (by simp [client_Basic.j0])
  | succ kj1 =>
   have H := HA.out
   clear HA
   simp only [client_Basic.j0] at H
   by_cases c13 : x34_1 = true
   · subst c13
     have H1 : (some ((⟨#[]⟩ : ByteArray), (⟨#[]⟩ : ByteArray), 113)) = some (r1, r2, r3) := by rw [if_pos rfl] at H; exact H
     clear H
     have H := H1
     clear H1
     simp only [Option.some.injEq, Prod.mk.injEq] at H
     obtain ⟨rfl, rfl, rfl⟩ := H
     go_wp2
     go_ret3
     exact ⟨by (rfl), by (with_reducible exact HB.out)⟩
   · replace c13 := Bool.eq_false_iff.mpr c13
     subst c13
     have H1 : (if 5 ≤ (a0.size : Int) then ((strings_TrimLeft.f (a0.extract 5 a0.size) (⟨#[32]⟩ : ByteArray)).bind fun t210 => ((client_common.f kj1 t210).bind fun bt211 => ((strings_Cut.f bt211.1 (⟨#[58]⟩ : ByteArray)).bind fun bt213 => ((urlform_Unescape.f bt213.1).bind fun bt216 => ((urlform_Unescape.f bt213.2.1).bind fun bt219 => (if bt211.2 = true then (if bt213.2.2 = true then (if bt216.2.1 = 0 then (if bt219.2.1 = 0 then (some (bt216.1, bt219.1, 0)) else (some ((⟨#[]⟩ : ByteArray), (⟨#[]⟩ : ByteArray), 113))) else (some ((⟨#[]⟩ : ByteArray), (⟨#[]⟩ : ByteArray), 113))) else (some ((⟨#[]⟩ : ByteArray), (⟨#[]⟩ : ByteArray), 113))) else (some ((⟨#[]⟩ : ByteArray), (⟨#[]⟩ : ByteArray), 113)))))))) else (none)) = some (r1, r2, r3) := by rw [if_neg (show ¬ (false = true) by decide)] at H; exact H
     clear H
     have H := H1
     clear H1
     by_cases c14 : 5 ≤ (a0.size : Int)
     · rw [if_pos c14] at H
       have c14b0 := eq_true c14
       have c14b1 : decide (5 ≤ (a0.size : Int)) = true := decide_eq_true c14
       clear c14
       replace H := Option.bind_eq_some_iff.mp H
       obtain ⟨t210, A150, H⟩ := H
       replace H : ((client_common.f kj1 t210).bind fun bt211 => ((strings_Cut.f bt211.1 (⟨#[58]⟩ : ByteArray)).bind fun bt213 => ((urlform_Unescape.f bt213.1).bind fun bt216 => ((urlform_Unescape.f bt213.2.1).bind fun bt219 => (if bt211.2 = true then (if bt213.2.2 = true then (if bt216.2.1 = 0 then (if bt219.2.1 = 0 then (some (bt216.1, bt219.1, 0)) else (some ((⟨#[]⟩ : ByteArray), (⟨#[]⟩ : ByteArray), 113))) else (some ((⟨#[]⟩ : ByteArray), (⟨#[]⟩ : ByteArray), 113))) else (some ((⟨#[]⟩ : ByteArray), (⟨#[]⟩ : ByteArray), 113))) else (some ((⟨#[]⟩ : ByteArray), (⟨#[]⟩ : ByteArray), 113))))))) = some (r1, r2, r3) := H
       have A15 := Aside0.mk A150
       clear A150
       replace H := Option.bind_eq_some_iff.mp H
       obtain ⟨⟨t211, t212⟩, A160, H⟩ := H
       replace H : ((strings_Cut.f t211 (⟨#[58]⟩ : ByteArray)).bind fun bt213 => ((urlform_Unescape.f bt213.1).bind fun bt216 => ((urlform_Unescape.f bt213.2.1).bind fun bt219 => (if t212 = true then (if bt213.2.2 = true then (if bt216.2.1 = 0 then (if bt219.2.1 = 0 then (some (bt216.1, bt219.1, 0)) else (some ((⟨#[]⟩ : ByteArray), (⟨#[]⟩ : ByteArray), 113))) else (some ((⟨#[]⟩ : ByteArray), (⟨#[]⟩ : ByteArray), 113))) else (some ((⟨#[]⟩ : ByteArray), (⟨#[]⟩ : ByteArray), 113))) else (some ((⟨#[]⟩ : ByteArray), (⟨#[]⟩ : ByteArray), 113)))))) = some (r1, r2, r3) := H
       have A16 := Aside0.mk A160
       clear A160
       replace H := Option.bind_eq_some_iff.mp H
       obtain ⟨⟨t213, t214, t215⟩, A170, H⟩ := H
       replace H : ((urlform_Unescape.f t213).bind fun bt216 => ((urlform_Unescape.f t214).bind fun bt219 => (if t212 = true then (if t215 = true then (if bt216.2.1 = 0 then (if bt219.2.1 = 0 then (some (bt216.1, bt219.1, 0)) else (some ((⟨#[]⟩ : ByteArray), (⟨#[]⟩ : ByteArray), 113))) else (some ((⟨#[]⟩ : ByteArray), (⟨#[]⟩ : ByteArray), 113))) else (some ((⟨#[]⟩ : ByteArray), (⟨#[]⟩ : ByteArray), 113))) else (some ((⟨#[]⟩ : ByteArray), (⟨#[]⟩ : ByteArray), 113))))) = some (r1, r2, r3) := H
       have A17 := Aside0.mk A170
       clear A170
       replace H := Option.bind_eq_some_iff.mp H
       obtain ⟨⟨t216, t217, t218⟩, A180, H⟩ := H
       replace H : ((urlform_Unescape.f t214).bind fun bt219 => (if t212 = true then (if t215 = true then (if t217 = 0 then (if bt219.2.1 = 0 then (some (t216, bt219.1, 0)) else (some ((⟨#[]⟩ : ByteArray), (⟨#[]⟩ : ByteArray), 113))) else (some ((⟨#[]⟩ : ByteArray), (⟨#[]⟩ : ByteArray), 113))) else (some ((⟨#[]⟩ : ByteArray), (⟨#[]⟩ : ByteArray), 113))) else (some ((⟨#[]⟩ : ByteArray), (⟨#[]⟩ : ByteArray), 113)))) = some (r1, r2, r3) := H
       have A18 := Aside0.mk A180
       clear A180
       replace H := Option.bind_eq_some_iff.mp H
       obtain ⟨⟨t219, t220, t221⟩, A190, H⟩ := H
       replace H : (if t212 = true then (if t215 = true then (if t217 = 0 then (if t220 = 0 then (some (t216, t219, 0)) else (some ((⟨#[]⟩ : ByteArray), (⟨#[]⟩ : ByteArray), 113))) else (some ((⟨#[]⟩ : ByteArray), (⟨#[]⟩ : ByteArray), 113))) else (some ((⟨#[]⟩ : ByteArray), (⟨#[]⟩ : ByteArray), 113))) else (some ((⟨#[]⟩ : ByteArray), (⟨#[]⟩ : ByteArray), 113))) = some (r1, r2, r3) := H
       have A19 := Aside0.mk A190
       clear A190
       by_cases c20 : t212 = true
       · subst c20
         have H1 : (if t215 = true then (if t217 = 0 then (if t220 = 0 then (some (t216, t219, 0)) else (some ((⟨#[]⟩ : ByteArray), (⟨#[]⟩ : ByteArray), 113))) else (some ((⟨#[]⟩ : ByteArray), (⟨#[]⟩ : ByteArray), 113))) else (some ((⟨#[]⟩ : ByteArray), (⟨#[]⟩ : ByteArray), 113))) = some (r1, r2, r3) := by rw [if_pos rfl] at H; exact H
         clear H
         have H := H1
         clear H1
         by_cases c21 : t215 = true
         · subst c21
           have H1 : (if t217 = 0 then (if t220 = 0 then (some (t216, t219, 0)) else (some ((⟨#[]⟩ : ByteArray), (⟨#[]⟩ : ByteArray), 113))) else (some ((⟨#[]⟩ : ByteArray), (⟨#[]⟩ : ByteArray), 113))) = some (r1, r2, r3) := by rw [if_pos rfl] at H; exact H
           clear H
           have H := H1
           clear H1
           by_cases c22 : t217 = 0
           · rw [if_pos c22] at H
             have c22b0 : (t217 == 0) = true := beq_iff_eq.mpr c22
             have c22b1 : (t217 != 0) = false := bne_eq_false_iff_eq.mpr c22
             clear c22
             by_cases c23 : t220 = 0
             · rw [if_pos c23] at H
               have c23b0 : (t220 == 0) = true := beq_iff_eq.mpr c23
               have c23b1 : (t220 != 0) = false := bne_eq_false_iff_eq.mpr c23
               clear c23
               simp only [Option.some.injEq, Prod.mk.injEq] at H
               obtain ⟨rfl, rfl, rfl⟩ := H
               go_wp2_with (first | ((with_reducible refine gate_callee (f := 64) rfl ?_); refine goesL_ (some 38) rfl rfl Tryz.func64 (by kernel_rfl) rfl #[.string (a0.extract 5 a0.size), .string (⟨#[32]⟩ : ByteArray)] rfl (by ((try simp only [List.map_toArray, List.map_cons, List.map_nil]); (rfl))) ?_; (with_reducible refine (strings_TrimLeft.calls (a0.extract 5 a0.size) (⟨#[32]⟩ : ByteArray) t210 _ A15.out).mono ?_); rintro e w24 ⟨rfl, hb⟩; refine ⟨_, rfl, ?_⟩; replace HB := Aside0.mk (below_step HB.out hb); clear hb) | ((with_reducible refine gate_callee (f := 63) rfl ?_); refine goesL_ (some 39) rfl rfl Tryz.func63 (by kernel_rfl) rfl #[.string t210] rfl (by ((try simp only [List.map_toArray, List.map_cons, List.map_nil]); (rfl))) ?_; (with_reducible refine (client_common.calls kj1 t210 t211 true _ A16.out).mono ?_); rintro e w25 ⟨rfl, hb⟩; refine ⟨_, rfl, ?_⟩; replace HB := Aside0.mk (below_step HB.out hb); clear hb) | ((with_reducible refine gate_callee (f := 65) rfl ?_); refine goesL_ (some 44) rfl rfl Tryz.func65 (by kernel_rfl) rfl #[.string t211, .string (⟨#[58]⟩ : ByteArray)] rfl (by ((try simp only [List.map_toArray, List.map_cons, List.map_nil]); (rfl))) ?_; (with_reducible refine (strings_Cut.calls t211 (⟨#[58]⟩ : ByteArray) t213 t214 true _ A17.out).mono ?_); rintro e w26 ⟨rfl, hb⟩; refine ⟨_, rfl, ?_⟩; replace HB := Aside0.mk (below_step HB.out hb); clear hb) | ((with_reducible refine gate_callee (f := 66) rfl ?_); refine goesL_ (some 50) rfl rfl Tryz.func66 (by kernel_rfl) rfl #[.string t213] rfl (by ((try simp only [List.map_toArray, List.map_cons, List.map_nil]); (rfl))) ?_; (with_reducible refine (urlform_Unescape.calls t213 t216 t217 t218 _ A18.out).mono ?_); rintro e w27 ⟨rfl, hb⟩; refine ⟨_, rfl, ?_⟩; replace HB := Aside0.mk (below_step HB.out hb); clear hb) | ((with_reducible refine gate_callee (f := 66) rfl ?_); refine goesL_ (some 56) rfl rfl Tryz.func66 (by kernel_rfl) rfl #[.string t214] rfl (by ((try simp only [List.map_toArray, List.map_cons, List.map_nil]); (rfl))) ?_; (with_reducible refine (urlform_Unescape.calls t214 t219 t220 t221 _ A19.out).mono ?_); rintro e w28 ⟨rfl, hb⟩; refine ⟨_, rfl, ?_⟩; replace HB := Aside0.mk (below_step HB.out hb); clear hb))
               go_ret3
               exact ⟨by (rfl), by (with_reducible exact HB.out)⟩
             · rw [if_neg c23] at H
               have c23b0 : (t220 == 0) = false := beq_eq_false_iff_ne.mpr c23
               have c23b1 : (t220 != 0) = true := bne_iff_ne.mpr c23
               simp only [Option.some.injEq, Prod.mk.injEq] at H
               obtain ⟨rfl, rfl, rfl⟩ := H
               go_wp2_with (first | ((with_reducible refine gate_callee (f := 64) rfl ?_); refine goesL_ (some 38) rfl rfl Tryz.func64 (by kernel_rfl) rfl #[.string (a0.extract 5 a0.size), .string (⟨#[32]⟩ : ByteArray)] rfl (by ((try simp only [List.map_toArray, List.map_cons, List.map_nil]); (rfl))) ?_; (with_reducible refine (strings_TrimLeft.calls (a0.extract 5 a0.size) (⟨#[32]⟩ : ByteArray) t210 _ A15.out).mono ?_); rintro e w29 ⟨rfl, hb⟩; refine ⟨_, rfl, ?_⟩; replace HB := Aside0.mk (below_step HB.out hb); clear hb) | ((with_reducible refine gate_callee (f := 63) rfl ?_); refine goesL_ (some 39) rfl rfl Tryz.func63 (by kernel_rfl) rfl #[.string t210] rfl (by ((try simp only [List.map_toArray, List.map_cons, List.map_nil]); (rfl))) ?_; (with_reducible refine (client_common.calls kj1 t210 t211 true _ A16.out).mono ?_); rintro e w30 ⟨rfl, hb⟩; refine ⟨_, rfl, ?_⟩; replace HB := Aside0.mk (below_step HB.out hb); clear hb) | ((with_reducible refine gate_callee (f := 65) rfl ?_); refine goesL_ (some 44) rfl rfl Tryz.func65 (by kernel_rfl) rfl #[.string t211, .string (⟨#[58]⟩ : ByteArray)] rfl (by ((try simp only [List.map_toArray, List.map_cons, List.map_nil]); (rfl))) ?_; (with_reducible refine (strings_Cut.calls t211 (⟨#[58]⟩ : ByteArray) t213 t214 true _ A17.out).mono ?_); rintro e w31 ⟨rfl, hb⟩; refine ⟨_, rfl, ?_⟩; replace HB := Aside0.mk (below_step HB.out hb); clear hb) | ((with_reducible refine gate_callee (f := 66) rfl ?_); refine goesL_ (some 50) rfl rfl Tryz.func66 (by kernel_rfl) rfl #[.string t213] rfl (by ((try simp only [List.map_toArray, List.map_cons, List.map_nil]); (rfl))) ?_; (with_reducible refine (urlform_Unescape.calls t213 t216 t217 t218 _ A18.out).mono ?_); rintro e w32 ⟨rfl, hb⟩; refine ⟨_, rfl, ?_⟩; replace HB := Aside0.mk (below_step HB.out hb); clear hb) | ((with_reducible refine gate_callee (f := 66) rfl ?_); refine goesL_ (some 56) rfl rfl Tryz.func66 (by kernel_rfl) rfl #[.string t214] rfl (by ((try simp only [List.map_toArray, List.map_cons, List.map_nil]); (rfl))) ?_; (with_reducible refine (urlform_Unescape.calls t214 t219 t220 t221 _ A19.out).mono ?_); rintro e w33 ⟨rfl, hb⟩; refine ⟨_, rfl, ?_⟩; replace HB := Aside0.mk (below_step HB.out hb); clear hb))
               go_ret3
               exact ⟨by (rfl), by (with_reducible exact HB.out)⟩
           · rw [if_neg c22] at H
             have c22b0 : (t217 == 0) = false := beq_eq_false_iff_ne.mpr c22
             have c22b1 : (t217 != 0) = true := bne_iff_ne.mpr c22
             simp only [Option.some.injEq, Prod.mk.injEq] at H
             obtain ⟨rfl, rfl, rfl⟩ := H
             go_wp2_with (first | ((with_reducible refine gate_callee (f := 64) rfl ?_); refine goesL_ (some 38) rfl rfl Tryz.func64 (by kernel_rfl) rfl #[.string (a0.extract 5 a0.size), .string (⟨#[32]⟩ : ByteArray)] rfl (by ((try simp only [List.map_toArray, List.map_cons, List.map_nil]); (rfl))) ?_; (with_reducible refine (strings_TrimLeft.calls (a0.extract 5 a0.size) (⟨#[32]⟩ : ByteArray) t210 _ A15.out).mono ?_); rintro e w34 ⟨rfl, hb⟩; refine ⟨_, rfl, ?_⟩; replace HB := Aside0.mk (below_step HB.out hb); clear hb) | ((with_reducible refine gate_callee (f := 63) rfl ?_); refine goesL_ (some 39) rfl rfl Tryz.func63 (by kernel_rfl) rfl #[.string t210] rfl (by ((try simp only [List.map_toArray, List.map_cons, List.map_nil]); (rfl))) ?_; (with_reducible refine (client_common.calls kj1 t210 t211 true _ A16.out).mono ?_); rintro e w35 ⟨rfl, hb⟩; refine ⟨_, rfl, ?_⟩; replace HB := Aside0.mk (below_step HB.out hb); clear hb) | ((with_reducible refine gate_callee (f := 65) rfl ?_); refine goesL_ (some 44) rfl rfl Tryz.func65 (by kernel_rfl) rfl #[.string t211, .string (⟨#[58]⟩ : ByteArray)] rfl (by ((try simp only [List.map_toArray, List.map_cons, List.map_nil]); (rfl))) ?_; (with_reducible refine (strings_Cut.calls t211 (⟨#[58]⟩ : ByteArray) t213 t214 true _ A17.out).mono ?_); rintro e w36 ⟨rfl, hb⟩; refine ⟨_, rfl, ?_⟩; replace HB := Aside0.mk (below_step HB.out hb); clear hb) | ((with_reducible refine gate_callee (f := 66) rfl ?_); refine goesL_ (some 50) rfl rfl Tryz.func66 (by kernel_rfl) rfl #[.string t213] rfl (by ((try simp only [List.map_toArray, List.map_cons, List.map_nil]); (rfl))) ?_; (with_reducible refine (urlform_Unescape.calls t213 t216 t217 t218 _ A18.out).mono ?_); rintro e w37 ⟨rfl, hb⟩; refine ⟨_, rfl, ?_⟩; replace HB := Aside0.mk (below_step HB.out hb); clear hb) | ((with_reducible refine gate_callee (f := 66) rfl ?_); refine goesL_ (some 56) rfl rfl Tryz.func66 (by kernel_rfl) rfl #[.string t214] rfl (by ((try simp only [List.map_toArray, List.map_cons, List.map_nil]); (rfl))) ?_; (with_reducible refine (urlform_Unescape.calls t214 t219 t220 t221 _ A19.out).mono ?_); rintro e w38 ⟨rfl, hb⟩; refine ⟨_, rfl, ?_⟩; replace HB := Aside0.mk (below_step HB.out hb); clear hb))
             go_ret3
             exact ⟨by (rfl), by (with_reducible exact HB.out)⟩
         · replace c21 := Bool.eq_false_iff.mpr c21
           subst c21
           have H1 : (some ((⟨#[]⟩ : ByteArray), (⟨#[]⟩ : ByteArray), 113)) = some (r1, r2, r3) := by rw [if_neg (show ¬ (false = true) by decide)] at H; exact H
           clear H
           have H := H1
           clear H1
           simp only [Option.some.injEq, Prod.mk.injEq] at H
           obtain ⟨rfl, rfl, rfl⟩ := H
           go_wp2_with (first | ((with_reducible refine gate_callee (f := 64) rfl ?_); refine goesL_ (some 38) rfl rfl Tryz.func64 (by kernel_rfl) rfl #[.string (a0.extract 5 a0.size), .string (⟨#[32]⟩ : ByteArray)] rfl (by ((try simp only [List.map_toArray, List.map_cons, List.map_nil]); (rfl))) ?_; (with_reducible refine (strings_TrimLeft.calls (a0.extract 5 a0.size) (⟨#[32]⟩ : ByteArray) t210 _ A15.out).mono ?_); rintro e w39 ⟨rfl, hb⟩; refine ⟨_, rfl, ?_⟩; replace HB := Aside0.mk (below_step HB.out hb); clear hb) | ((with_reducible refine gate_callee (f := 63) rfl ?_); refine goesL_ (some 39) rfl rfl Tryz.func63 (by kernel_rfl) rfl #[.string t210] rfl (by ((try simp only [List.map_toArray, List.map_cons, List.map_nil]); (rfl))) ?_; (with_reducible refine (client_common.calls kj1 t210 t211 true _ A16.out).mono ?_); rintro e w40 ⟨rfl, hb⟩; refine ⟨_, rfl, ?_⟩; replace HB := Aside0.mk (below_step HB.out hb); clear hb) | ((with_reducible refine gate_callee (f := 65) rfl ?_); refine goesL_ (some 44) rfl rfl Tryz.func65 (by kernel_rfl) rfl #[.string t211, .string (⟨#[58]⟩ : ByteArray)] rfl (by ((try simp only [List.map_toArray, List.map_cons, List.map_nil]); (rfl))) ?_; (with_reducible refine (strings_Cut.calls t211 (⟨#[58]⟩ : ByteArray) t213 t214 false _ A17.out).mono ?_); rintro e w41 ⟨rfl, hb⟩; refine ⟨_, rfl, ?_⟩; replace HB := Aside0.mk (below_step HB.out hb); clear hb) | ((with_reducible refine gate_callee (f := 66) rfl ?_); refine goesL_ (some 50) rfl rfl Tryz.func66 (by kernel_rfl) rfl #[.string t213] rfl (by ((try simp only [List.map_toArray, List.map_cons, List.map_nil]); (rfl))) ?_; (with_reducible refine (urlform_Unescape.calls t213 t216 t217 t218 _ A18.out).mono ?_); rintro e w42 ⟨rfl, hb⟩; refine ⟨_, rfl, ?_⟩; replace HB := Aside0.mk (below_step HB.out hb); clear hb) | ((with_reducible refine gate_callee (f := 66) rfl ?_); refine goesL_ (some 56) rfl rfl Tryz.func66 (by kernel_rfl) rfl #[.string t214] rfl (by ((try simp only [List.map_toArray, List.map_cons, List.map_nil]); (rfl))) ?_; (with_reducible refine (urlform_Unescape.calls t214 t219 t220 t221 _ A19.out).mono ?_); rintro e w43 ⟨rfl, hb⟩; refine ⟨_, rfl, ?_⟩; replace HB := Aside0.mk (below_step HB.out hb); clear hb))
           go_ret3
           exact ⟨by (rfl), by (with_reducible exact HB.out)⟩
       · replace c20 := Bool.eq_false_iff.mpr c20
         subst c20
         have H1 : (some ((⟨#[]⟩ : ByteArray), (⟨#[]⟩ : ByteArray), 113)) = some (r1, r2, r3) := by rw [if_neg (show ¬ (false = true) by decide)] at H; exact H
         clear H
         have H := H1
         clear H1
         simp only [Option.some.injEq, Prod.mk.injEq] at H
         obtain ⟨rfl, rfl, rfl⟩ := H
         go_wp2_with (first | ((with_reducible refine gate_callee (f := 64) rfl ?_); refine goesL_ (some 38) rfl rfl Tryz.func64 (by kernel_rfl) rfl #[.string (a0.extract 5 a0.size), .string (⟨#[32]⟩ : ByteArray)] rfl (by ((try simp only [List.map_toArray, List.map_cons, List.map_nil]); (rfl))) ?_; (with_reducible refine (strings_TrimLeft.calls (a0.extract 5 a0.size) (⟨#[32]⟩ : ByteArray) t210 _ A15.out).mono ?_); rintro e w44 ⟨rfl, hb⟩; refine ⟨_, rfl, ?_⟩; replace HB := Aside0.mk (below_step HB.out hb); clear hb) | ((with_reducible refine gate_callee (f := 63) rfl ?_); refine goesL_ (some 39) rfl rfl Tryz.func63 (by kernel_rfl) rfl #[.string t210] rfl (by ((try simp only [List.map_toArray, List.map_cons, List.map_nil]); (rfl))) ?_; (with_reducible refine (client_common.calls kj1 t210 t211 false _ A16.out).mono ?_); rintro e w45 ⟨rfl, hb⟩; refine ⟨_, rfl, ?_⟩; replace HB := Aside0.mk (below_step HB.out hb); clear hb) | ((with_reducible refine gate_callee (f := 65) rfl ?_); refine goesL_ (some 44) rfl rfl Tryz.func65 (by kernel_rfl) rfl #[.string t211, .string (⟨#[58]⟩ : ByteArray)] rfl (by ((try simp only [List.map_toArray, List.map_cons, List.map_nil]); (rfl))) ?_; (with_reducible refine (strings_Cut.calls t211 (⟨#[58]⟩ : ByteArray) t213 t214 t215 _ A17.out).mono ?_); rintro e w46 ⟨rfl, hb⟩; refine ⟨_, rfl, ?_⟩; replace HB := Aside0.mk (below_step HB.out hb); clear hb) | ((with_reducible refine gate_callee (f := 66) rfl ?_); refine goesL_ (some 50) rfl rfl Tryz.func66 (by kernel_rfl) rfl #[.string t213] rfl (by ((try simp only [List.map_toArray, List.map_cons, List.map_nil]); (rfl))) ?_; (with_reducible refine (urlform_Unescape.calls t213 t216 t217 t218 _ A18.out).mono ?_); rintro e w47 ⟨rfl, hb⟩; refine ⟨_, rfl, ?_⟩; replace HB := Aside0.mk (below_step HB.out hb); clear hb) | ((with_reducible refine gate_callee (f := 66) rfl ?_); refine goesL_ (some 56) rfl rfl Tryz.func66 (by kernel_rfl) rfl #[.string t214] rfl (by ((try simp only [List.map_toArray, List.map_cons, List.map_nil]); (rfl))) ?_; (with_reducible refine (urlform_Unescape.calls t214 t219 t220 t221 _ A19.out).mono ?_); rintro e w48 ⟨rfl, hb⟩; refine ⟨_, rfl, ?_⟩; replace HB := Aside0.mk (below_step HB.out hb); clear hb))
         go_ret3
         exact ⟨by (rfl), by (with_reducible exact HB.out)⟩
     · rw [if_neg c14] at H
       exact absurd H (by simp)
end Go.Proofs.YtmimipgmhgalaaaGreatDoor.PAll
end
section
namespace Go.Proofs.YtmimipgmhgalaaaGreatDoor.PAll
open Go.RowKit Go.Proofs.YtmimipgmhgalaaaGreatDoorW.PrintWords Go.Proofs.YtmimipgmhgalaaaGreatDoorW.PrintLast Go.Proofs.YtmimipgmhgalaaaGreatDoorW.PrintMore
attribute [local go_sem] max2_int min2_int max_two min_two max_three min_three max_four min_four
set_option linter.unusedVariables false
set_option linter.unusedSimpArgs false
mutual
def wicketref03_Within.l0 : Nat → List ByteArray → List ByteArray → Int → Option (Bool)
 | 0, _, _, _ => none
 | k + 1, x0, x1, x5 => if x5 < (x0.length : Int) then (wicketref03_Within.l1 k x0 x1 x5 false 0) else (some true)
def wicketref03_Within.l1 : Nat → List ByteArray → List ByteArray → Int → Bool → Int → Option (Bool)
 | 0, _, _, _, _, _ => none
 | k + 1, x0, x1, x5, x6, x7 => if x7 < (x1.length : Int) then (if x6 = true then (wicketref03_Within.l1 k x0 x1 x5 true (wrap64 (x7 + 1))) else (if 0 ≤ x7 then (if 0 ≤ x5 then (if x5 < (x0.length : Int) then (wicketref03_Within.l1 k x0 x1 x5 ((rdOf ByteArray.empty x1 x7).toList == (rdOf ByteArray.empty x0 x5).toList) (wrap64 (x7 + 1))) else (none)) else (none)) else (none))) else (if x6 = true then (wicketref03_Within.l0 k x0 x1 (wrap64 (x5 + 1))) else (some false))
end
def wicketlaw11_num.f (a0 : Int) : Option (Int) := some a0
set_option maxHeartbeats 8000000 in
set_option maxRecDepth 100000 in
theorem wicketlaw11_num.calls (a0 : Int) (r : Int) (w : World) (h : wicketlaw11_num.f a0 = some r) :
 Calls Tryz.prog 19 #[.int .i64 a0] w fun e w' => e = .returned (.int .i64 r) ∧ Drawn0 w w' := by
 have H : (some a0) = some r := h
 clear h
 obtain rfl := Option.some.inj H
 go_enter Tryz.func19, Tryz.ntmps19
 go_wp2
 go_ret
 exact ⟨by (rfl), by repeat (exact Drawn0.refl _)⟩
end Go.Proofs.YtmimipgmhgalaaaGreatDoor.PAll
end
section
namespace Go.Proofs.YtmimipgmhgalaaaGreatDoor.PAll
open Go.RowKit Go.Proofs.YtmimipgmhgalaaaGreatDoorW.PrintWords Go.Proofs.YtmimipgmhgalaaaGreatDoorW.PrintLast Go.Proofs.YtmimipgmhgalaaaGreatDoorW.PrintMore
attribute [local go_sem] max2_int min2_int max_two min_two max_three min_three max_four min_four
set_option linter.unusedVariables false
set_option linter.unusedSimpArgs false
def wicketlaw11_ClientBasics.f (k : Nat) (a0 : ByteArray) : Option (Bool) := (client_Basic.f k a0).bind fun bt752 => ((wicketref11_Basic.f k a0).bind fun bt755 => (if bt752.1.toList = bt755.1.toList then (if bt752.2.1.toList = bt755.2.1.toList then ((wicketlaw11_num.f bt752.2.2).bind fun t758 => (if t758 = bt755.2.2 then ((wicketlaw11_live.f).bind fun t759 => (some t759)) else (some false))) else (some false)) else (some false)))
set_option maxHeartbeats 8000000 in
set_option maxRecDepth 100000 in
theorem wicketlaw11_ClientBasics.calls (k : Nat) (a0 : ByteArray) (r : Bool) (w : World) (h : wicketlaw11_ClientBasics.f k a0 = some r) :
 Calls Tryz.prog 9 #[.string a0] w fun e w' => e = .returned (.bool r) ∧ Below w.heap.size w w' := by
 have HB := Aside0.mk (Below.refl w.heap.size w)
 have H : ((client_Basic.f k a0).bind fun bt752 => ((wicketref11_Basic.f k a0).bind fun bt755 => (if bt752.1.toList = bt755.1.toList then (if bt752.2.1.toList = bt755.2.1.toList then ((wicketlaw11_num.f bt752.2.2).bind fun t758 => (if t758 = bt755.2.2 then ((wicketlaw11_live.f).bind fun t759 => (some t759)) else (some false))) else (some false)) else (some false)))) = some r := h
 clear h
 replace H := Option.bind_eq_some_iff.mp H
 obtain ⟨⟨t752, t753, t754⟩, A20, H⟩ := H
 replace H : ((wicketref11_Basic.f k a0).bind fun bt755 => (if t752.toList = bt755.1.toList then (if t753.toList = bt755.2.1.toList then ((wicketlaw11_num.f t754).bind fun t758 => (if t758 = bt755.2.2 then ((wicketlaw11_live.f).bind fun t759 => (some t759)) else (some false))) else (some false)) else (some false))) = some r := H
 have A2 := Aside0.mk A20
 clear A20
 replace H := Option.bind_eq_some_iff.mp H
 obtain ⟨⟨t755, t756, t757⟩, A30, H⟩ := H
 replace H : (if t752.toList = t755.toList then (if t753.toList = t756.toList then ((wicketlaw11_num.f t754).bind fun t758 => (if t758 = t757 then ((wicketlaw11_live.f).bind fun t759 => (some t759)) else (some false))) else (some false)) else (some false)) = some r := H
 have A3 := Aside0.mk A30
 clear A30
 by_cases c4 : t752.toList = t755.toList
 · rw [if_pos c4] at H
   have c4b0 : (t752.toList == t755.toList) = true := beq_iff_eq.mpr c4
   have c4b1 : (t752.toList != t755.toList) = false := bne_eq_false_iff_eq.mpr c4
   clear c4
   by_cases c5 : t753.toList = t756.toList
   · rw [if_pos c5] at H
     have c5b0 : (t753.toList == t756.toList) = true := beq_iff_eq.mpr c5
     have c5b1 : (t753.toList != t756.toList) = false := bne_eq_false_iff_eq.mpr c5
     clear c5
     replace H := Option.bind_eq_some_iff.mp H
     obtain ⟨t758, A60, H⟩ := H
     replace H : (if t758 = t757 then ((wicketlaw11_live.f).bind fun t759 => (some t759)) else (some false)) = some r := H
     have A6 := Aside0.mk A60
     clear A60
     by_cases c7 : t758 = t757
     · rw [if_pos c7] at H
       have c7b0 : (t758 == t757) = true := beq_iff_eq.mpr c7
       have c7b1 : (t758 != t757) = false := bne_eq_false_iff_eq.mpr c7
       clear c7
       replace H := Option.bind_eq_some_iff.mp H
       obtain ⟨t759, A80, H⟩ := H
       replace H : (some t759) = some r := H
       have A8 := Aside0.mk A80
       clear A80
       obtain rfl := Option.some.inj H
       go_enter Tryz.func9, Tryz.ntmps9
       go_wp2_with (first | ((with_reducible refine gate_callee (f := 32) rfl ?_); refine goesL_ (some 11) rfl rfl Tryz.func32 (by kernel_rfl) rfl #[.string a0] rfl (by ((try simp only [List.map_toArray, List.map_cons, List.map_nil]); (rfl))) ?_; (with_reducible refine (client_Basic.calls k a0 t752 t753 t754 _ A2.out).mono ?_); rintro e w9 ⟨rfl, hb⟩; refine ⟨_, rfl, ?_⟩; replace HB := Aside0.mk (below_step HB.out hb); clear hb) | ((with_reducible refine gate_callee (f := 33) rfl ?_); refine goesL_ (some 17) rfl rfl Tryz.func33 (by kernel_rfl) rfl #[.string a0] rfl (by ((try simp only [List.map_toArray, List.map_cons, List.map_nil]); (rfl))) ?_; (with_reducible refine (wicketref11_Basic.calls k a0 t755 t756 t757 _ A3.out).mono ?_); rintro e w10 ⟨rfl, hb⟩; refine ⟨_, rfl, ?_⟩; replace HB := Aside0.mk (below_step HB.out hb); clear hb) | (go_at_call 19; (with_reducible refine (wicketlaw11_num.calls t754 t758 _ A6.out).mono ?_); rintro e w' ⟨rfl, ⟨nd, rfl⟩⟩) | (go_at_call 21; (with_reducible refine (wicketlaw11_live.calls  t759 _ A8.out).mono ?_); rintro e w11 ⟨rfl, hb⟩; replace HB := Aside0.mk (below_step (by (repeat (with_reducible first | exact HB.out | apply pw_below_drewN))) hb); clear hb))
       go_ret
       exact ⟨by (rfl), by (with_reducible exact HB.out)⟩
     · rw [if_neg c7] at H
       have c7b0 : (t758 == t757) = false := beq_eq_false_iff_ne.mpr c7
       have c7b1 : (t758 != t757) = true := bne_iff_ne.mpr c7
       obtain rfl := Option.some.inj H
       go_enter Tryz.func9, Tryz.ntmps9
       go_wp2_with (first | ((with_reducible refine gate_callee (f := 32) rfl ?_); refine goesL_ (some 11) rfl rfl Tryz.func32 (by kernel_rfl) rfl #[.string a0] rfl (by ((try simp only [List.map_toArray, List.map_cons, List.map_nil]); (rfl))) ?_; (with_reducible refine (client_Basic.calls k a0 t752 t753 t754 _ A2.out).mono ?_); rintro e w12 ⟨rfl, hb⟩; refine ⟨_, rfl, ?_⟩; replace HB := Aside0.mk (below_step HB.out hb); clear hb) | ((with_reducible refine gate_callee (f := 33) rfl ?_); refine goesL_ (some 17) rfl rfl Tryz.func33 (by kernel_rfl) rfl #[.string a0] rfl (by ((try simp only [List.map_toArray, List.map_cons, List.map_nil]); (rfl))) ?_; (with_reducible refine (wicketref11_Basic.calls k a0 t755 t756 t757 _ A3.out).mono ?_); rintro e w13 ⟨rfl, hb⟩; refine ⟨_, rfl, ?_⟩; replace HB := Aside0.mk (below_step HB.out hb); clear hb) | (go_at_call 19; (with_reducible refine (wicketlaw11_num.calls t754 t758 _ A6.out).mono ?_); rintro e w' ⟨rfl, ⟨nd, rfl⟩⟩))
       go_ret
       exact ⟨by (rfl), by (repeat (with_reducible first | exact HB.out | apply pw_below_drewN))⟩
   · rw [if_neg c5] at H
     have c5b0 : (t753.toList == t756.toList) = false := beq_eq_false_iff_ne.mpr c5
     have c5b1 : (t753.toList != t756.toList) = true := bne_iff_ne.mpr c5
     obtain rfl := Option.some.inj H
     go_enter Tryz.func9, Tryz.ntmps9
     go_wp2_with (first | ((with_reducible refine gate_callee (f := 32) rfl ?_); refine goesL_ (some 11) rfl rfl Tryz.func32 (by kernel_rfl) rfl #[.string a0] rfl (by ((try simp only [List.map_toArray, List.map_cons, List.map_nil]); (rfl))) ?_; (with_reducible refine (client_Basic.calls k a0 t752 t753 t754 _ A2.out).mono ?_); rintro e w14 ⟨rfl, hb⟩; refine ⟨_, rfl, ?_⟩; replace HB := Aside0.mk (below_step HB.out hb); clear hb) | ((with_reducible refine gate_callee (f := 33) rfl ?_); refine goesL_ (some 17) rfl rfl Tryz.func33 (by kernel_rfl) rfl #[.string a0] rfl (by ((try simp only [List.map_toArray, List.map_cons, List.map_nil]); (rfl))) ?_; (with_reducible refine (wicketref11_Basic.calls k a0 t755 t756 t757 _ A3.out).mono ?_); rintro e w15 ⟨rfl, hb⟩; refine ⟨_, rfl, ?_⟩; replace HB := Aside0.mk (below_step HB.out hb); clear hb))
     go_ret
     exact ⟨by (rfl), by (with_reducible exact HB.out)⟩
 · rw [if_neg c4] at H
   have c4b0 : (t752.toList == t755.toList) = false := beq_eq_false_iff_ne.mpr c4
   have c4b1 : (t752.toList != t755.toList) = true := bne_iff_ne.mpr c4
   obtain rfl := Option.some.inj H
   go_enter Tryz.func9, Tryz.ntmps9
   go_wp2_with (first | ((with_reducible refine gate_callee (f := 32) rfl ?_); refine goesL_ (some 11) rfl rfl Tryz.func32 (by kernel_rfl) rfl #[.string a0] rfl (by ((try simp only [List.map_toArray, List.map_cons, List.map_nil]); (rfl))) ?_; (with_reducible refine (client_Basic.calls k a0 t752 t753 t754 _ A2.out).mono ?_); rintro e w16 ⟨rfl, hb⟩; refine ⟨_, rfl, ?_⟩; replace HB := Aside0.mk (below_step HB.out hb); clear hb) | ((with_reducible refine gate_callee (f := 33) rfl ?_); refine goesL_ (some 17) rfl rfl Tryz.func33 (by kernel_rfl) rfl #[.string a0] rfl (by ((try simp only [List.map_toArray, List.map_cons, List.map_nil]); (rfl))) ?_; (with_reducible refine (wicketref11_Basic.calls k a0 t755 t756 t757 _ A3.out).mono ?_); rintro e w17 ⟨rfl, hb⟩; refine ⟨_, rfl, ?_⟩; replace HB := Aside0.mk (below_step HB.out hb); clear hb))
   go_ret
   exact ⟨by (rfl), by (with_reducible exact HB.out)⟩
def wicketlaw11_ClientBasics.Pure : Prop := ∀ (a0 : ByteArray), a0.size ≤ 140737488351232 → ∃ k, wicketlaw11_ClientBasics.f k a0 = some true
end Go.Proofs.YtmimipgmhgalaaaGreatDoor.PAll
end
section
namespace Go.Proofs.YtmimipgmhgalaaaGreatDoor.PAll
open Go.RowKit Go.Proofs.YtmimipgmhgalaaaGreatDoorW.PrintWords
set_option linter.unusedVariables false
set_option linter.unusedSimpArgs false
theorem wide_at (s : ByteArray) (hs : s.size = 5) (h : asciiS s = false) : ∃ j, j < 5 ∧ 128 ≤ (s.data.toList.getD j 0).toNat := by
  unfold asciiS at h
  rw [List.all_eq_false] at h
  obtain ⟨b, hb, hx⟩ := h
  obtain ⟨j, hj⟩ := List.getElem?_of_mem hb
  have hl : j < s.data.toList.length := by
    apply Classical.byContradiction
    intro hn
    rw [List.getElem?_eq_none (by omega)] at hj
    cases hj
  have hl2 : s.data.toList.length = s.size := by rw [Array.length_toList]; rfl
  refine ⟨j, by omega, ?_⟩
  rw [List.getD_eq_getElem?_getD, hj]
  have : ¬ b.toNat < 128 := fun e => hx (decide_eq_true e)
  show 128 ≤ b.toNat
  omega
set_option maxRecDepth 100000 in
set_option maxHeartbeats 1000000 in
theorem basic_wide (h : ByteArray) (h1 : h.size ≤ 1024) (h2 : 6 ≤ h.size) (hn : asciiS (h.extract 0 5) = false) (w : World) (hT : FoldT w) : Calls Tryz.prog 32 #[.string h] w fun e w' => e = .returned (.tuple #[.string ⟨#[]⟩, .string ⟨#[]⟩, .int .i64 113]) ∧ Below w.heap.size w w' := by
  have hs : (h.extract 0 5).size = 5 := by
    have e := Lib.extract_data h 0 5
    have : (h.extract 0 5).data.toList.length = (h.extract 0 5).size := by rw [Array.length_toList]; rfl
    rw [← this, e, List.length_take, List.length_drop, Array.length_toList]
    show min (5 - 0) (h.size - 0) = 5
    omega
  have HF := Lib.hid (fun (V : World) (hV : FoldT V) => fold_wide (h.extract 0 5) hs (wide_at _ hs hn) V hV)
  have HT := Lib.hid hT
  have c1 : ((1024 : Int) < (h.size : Int)) = False := eq_false (by omega)
  have c2 : ((h.size : Int) < 6) = False := eq_false (by omega)
  have c3 : ((5 : Int) ≤ (h.size : Int)) = True := eq_true (by omega)
  have c4 : ((5 : Int) < (h.size : Int)) = True := eq_true (by omega)
  clear hn hT hs
  go_enter Tryz.func32, Tryz.ntmps32
  go_wp2_with (go_at_call 62; refine (HF.out _ HT.out).mono ?_; rintro e w1 ⟨rfl, hb⟩; have HB := Lib.hid hb; clear hb)
  go_ret3
  exact ⟨rfl, HB.out⟩
set_option maxRecDepth 100000 in
set_option maxHeartbeats 1000000 in
theorem basics_wide (k : Nat) (h : ByteArray) (h1 : h.size ≤ 1024) (h2 : 6 ≤ h.size) (hn : asciiS (h.extract 0 5) = false) (w : World) (hT : FoldT w) (hr : wicketref11_Basic.f k h = some ((⟨#[]⟩ : ByteArray), (⟨#[]⟩ : ByteArray), 113)) :
    Calls Tryz.prog 9 #[.string h] w fun e w' => e = .returned (.bool true) ∧ Below w.heap.size w w' := by
  have HBW := Lib.hid (basic_wide h h1 h2 hn w hT)
  have HRB := Lib.hid (fun V : World => wicketref11_Basic.calls k h (⟨#[]⟩ : ByteArray) (⟨#[]⟩ : ByteArray) 113 V hr)
  have HV := Lib.hid (fun V : World => wicketlaw11_live.calls true V rfl)
  clear hT hr hn h1 h2
  go_enter Tryz.func9, Tryz.ntmps9
  go_wp2_with (fail)
  refine HBW.out.mono ?_
  rintro e w1 ⟨rfl, hb1⟩
  have HB1 := Lib.hid hb1
  clear hb1
  go_wp2_with (fail)
  refine (HRB.out _).mono ?_
  rintro e w2 ⟨rfl, hb2⟩
  have HB2 := Lib.hid (below_step HB1.out hb2)
  clear hb2
  go_wp2_with (first | (go_at_call 19; (with_reducible refine (live_num 113 _).mono ?_); rintro e w3 ⟨rfl, ⟨nd, rfl⟩⟩) | (go_at_call 21; (with_reducible refine (HV.out _).mono ?_); rintro e w4 ⟨rfl, hb4⟩; have HB4 := Lib.hid (below_step (pw_below_drewN HB2.out _) hb4); clear hb4))
  go_ret
  exact ⟨rfl, by repeat (first | (with_reducible first | exact HB4.out | apply below_alloc | apply pw_below_drewN | apply below_drew1) | exact HB4.out)⟩
end Go.Proofs.YtmimipgmhgalaaaGreatDoor.PAll
end
section
namespace Go.Proofs.YtmimipgmhgalaaaGreatDoor.Open
open Go.ChangeShapes Go.WideShapes Go.ChangeAt Go.RowKit Go.Proofs.YtmimipgmhgalaaaGreatDoorW.PrintWords
def Opens {α : Type} (P : Program) (T : TypeId) (d : Kd α) (m : α → Nat) (ok : α → Prop) : Prop :=
  ∀ (H : Type) (enc : TypeId × Value → H) (w : World) (base : Nat) (spare : Nat → Bool) (held : Bool) (fuel : Nat) (cs : List Value) (x : DataW H × List MemPlace),
    DataW.trod enc P w base spare held fuel T cs = some x → ∃ a, d.K w a cs ∧ m a ≤ Rows.uptoBulk x.1 ∧ ((DataW.weights P T x.1).all (· ≤ reachBytes) = true → ok a)
theorem opens_string {P : Program} {T : TypeId} (hu : P.underlying T = some .string) : Opens P T Kd.string (fun s => s.size + 1) (fun s => s.size ≤ 140737488351232) := by
  intro H enc w base spare held fuel cs x h
  obtain ⟨s, rfl, rfl, _⟩ := DataW.trod_string hu h
  refine ⟨s, rfl, ?_, fun hw => ?_⟩
  · simp [Rows.uptoBulk]
  · simp only [DataW.weights, List.all_cons, List.all_nil, Bool.and_true, reachBytes, Array.length_toList] at hw
    exact of_decide_eq_true hw
theorem cells?_at {w : World} {base : Nat} {a : Addr} {n : Nat} {cs : List Value} (h : w.cells? base a n = some cs) : cs.length = n ∧ ∀ (i : Nat) (u : Value), cs[i]? = some u → w.cell? (a.add i) = some u := by
  unfold World.cells? at h
  split at h
  · refine ⟨by simpa using mapM_some_length h, fun i u hu => ?_⟩
    have hi : i < n := by
      have h1 := (List.getElem?_eq_some_iff.1 hu).1
      have h2 : cs.length = n := by simpa using mapM_some_length h
      omega
    have := mapM_some_get h i i (by simp [hi])
    rw [this, hu]
  · cases h
theorem arg_string {H : Type} {enc : TypeId × Value → H} {P : Program} {W : World} {base b0 : Nat} {r : Reach} {spare : Nat → Bool} {held : Bool} {T : TypeId} {v : Value} {x : DataW H} {ps : List MemPlace}
    (hu : P.underlying T = some .string) (hv : Value.okWide P W r b0 T v) (h : DataW.Trod enc P W base spare held T v x ps) :
    ∃ s : ByteArray, v = .string s ∧ s.size + 1 ≤ Rows.uptoBulk x ∧ ((DataW.weights P T x).all (· ≤ reachBytes) = true → s.size ≤ 140737488351232) := by
  obtain ⟨s, rfl⟩ := okWide_string hu hv
  obtain ⟨fuel, hf⟩ := h
  obtain ⟨l, hcs, hm, hok⟩ := opens_string hu H enc W base spare held fuel _ _ hf
  have e : s = l := by
    have h2 : [Value.string s] = [Value.string l] := hcs
    injection h2 with h2
    injection h2
  subst e
  exact ⟨s, rfl, hm, hok⟩
theorem trod_lt' {H : Type} {enc : TypeId × Value → H} {P : Program} {W : World} {spare : Nat → Bool} {held : Bool} {T : TypeId} {v : Value} {x : DataW H} {ps : List MemPlace}
    (h : DataW.Trod enc P W 0 spare held T v x ps) : ∀ y ∈ ps, y.block < W.heap.size := by
  obtain ⟨m, hm⟩ := h
  exact DataW.trod_lt m _ _ _ hm
end Go.Proofs.YtmimipgmhgalaaaGreatDoor.Open
end
section
namespace Go.Proofs.YtmimipgmhgalaaaGreatDoor.PAll
open Go.RowKit Go.Proofs.YtmimipgmhgalaaaGreatDoorW.PrintWords Go.Proofs.YtmimipgmhgalaaaGreatDoor.Open
set_option linter.unusedVariables false
set_option linter.unusedSimpArgs false
def ascZ : List Int := (List.range 128).map fun j => (ascT j : Int)
theorem asc_of_reads {W : World} (h : Lib.VarReads Tryz.prog W "unicode.asciiFold" Rows.laid_unicode_asciiFold) : ∀ j, j < 128 → W.cell? ⟨0, j, none⟩ = some (.int .u16 (ascT j : Int)) := by
  obtain ⟨g', t', cs, fuel, p, hg', ht', hvar, hr⟩ := h
  obtain rfl := Option.some.inj ((show Tryz.prog.globalNamed "unicode.asciiFold" = some 0 by kernel_rfl).symm.trans hg')
  obtain rfl := Option.some.inj ((show (Tryz.prog.globals[0]?).map (·.type) = some 175 by kernel_rfl).symm.trans ht')
  rw [show (Rows.laid_unicode_asciiFold : DataW Unit) = Lib.tabData .u16 ascZ by kernel_rfl] at hr
  have hc := Lib.cells_of_tab Tryz.underlying175 Tryz.underlying174 (by kernel_rfl) (by kernel_rfl) hr
  have hT : Lib.TabIs Tryz.prog W "unicode.asciiFold" .u16 ascZ := by unfold Lib.TabIs; rw [hvar, ← hc]
  intro j hj
  have := hT.cell (show Tryz.prog.globalNamed "unicode.asciiFold" = some 0 by kernel_rfl) j (by simp [ascZ]; exact hj)
  rw [show ascZ.getD j 0 = (ascT j : Int) by simp [ascZ, List.getD_eq_getElem?_getD, hj]] at this
  exact this
theorem orb_of_reads {W : World} (h : Lib.VarReads Tryz.prog W "unicode.caseOrbit" Rows.laid_unicode_caseOrbit) : ∃ b o cap sp, W.cell? ⟨1, 0, none⟩ = some (.slice (some ⟨b, o, sp⟩) 94 cap) ∧ W.cell? ⟨b, o + 94, none⟩ = some (.int .u16 966) ∧ W.cell? ⟨b, o + 46, none⟩ = some (.int .u16 837) ∧ W.cell? ⟨b, o + 22, none⟩ = some (.int .u16 452) ∧ W.cell? ⟨b, o + 10, none⟩ = some (.int .u16 197) ∧
    W.cell? ⟨b, o + 16, none⟩ = some (.int .u16 304) ∧ W.cell? ⟨b, o + 20, none⟩ = some (.int .u16 383) ∧ W.cell? ⟨b, o + 18, none⟩ = some (.int .u16 305) ∧ W.cell? ⟨b, o + 20 + 1, none⟩ = some (.int .u16 83) := by
  obtain ⟨g', t', cs, fuel, p, hg', ht', hvar, hr⟩ := h
  obtain rfl := Option.some.inj ((show Tryz.prog.globalNamed "unicode.caseOrbit" = some 1 by kernel_rfl).symm.trans hg')
  obtain rfl := Option.some.inj ((show (Tryz.prog.globals[1]?).map (·.type) = some 176 by kernel_rfl).symm.trans ht')
  rcases DataW.trod_slice Tryz.underlying176 hr with ⟨_, hx⟩ | ⟨a, len, cap, elems, rest, n, _, hcs0, hx, hb, hl, hm, hlen, hel, hsp, hns⟩
  · exact absurd (congrArg Prod.fst hx) (by unfold Rows.laid_unicode_caseOrbit; intro e; cases e)
  have hx1 := congrArg Prod.fst hx
  unfold Rows.laid_unicode_caseOrbit at hx1
  injection hx1 with he _
  have hlen94 : len = 94 := by
    have := congrArg List.length he
    rw [List.length_map, hlen] at this
    exact this.symm
  subst hlen94
  have hcell := World.var?_cell (show Tryz.prog.globalNamed "unicode.caseOrbit" = some 1 by kernel_rfl) hvar 0
  have key : ∀ (i : Nat) (A B : Int), i < 94 → (elems.map (·.1))[i]? = some (.agg ([A, B].map fun z => .lit (.int .u16 z))) → W.cell? ((a.add (i * 2)).add 0) = some (.int .u16 A) ∧ W.cell? ((a.add (i * 2)).add 1) = some (.int .u16 B) := by
    intro i A B hi hd
    have h1 := hel i hi
    rw [List.getElem?_map, Option.map_eq_some_iff] at hd
    obtain ⟨y, hy, hyd⟩ := hd
    rw [hy, Option.bind_eq_some_iff] at h1
    obtain ⟨c, hcs, htr⟩ := h1
    obtain ⟨y1, y2⟩ := y
    dsimp only at hyd
    subst hyd
    rw [show Tryz.prog.cellsOf 178 = 2 by kernel_rfl] at hcs
    have hc := Lib.ints_of_struct (zs := [A, B]) Tryz.underlying178 (by
      intro j f hf
      match j, hf with
      | 0, hf => obtain rfl := Option.some.inj hf; exact ⟨Tryz.underlying174, rfl, by kernel_rfl⟩
      | 1, hf => obtain rfl := Option.some.inj hf; exact ⟨Tryz.underlying174, rfl, by kernel_rfl⟩
      | j + 2, hf => cases hf) (by kernel_rfl) htr
    obtain ⟨_, hcc⟩ := cells?_at hcs
    subst hc
    exact ⟨hcc 0 _ rfl, hcc 1 _ rfl⟩
  rw [← he] at key
  obtain ⟨b, o, sp⟩ := a
  refine ⟨b, o, cap, sp, ?_, ?_⟩
  · rw [hcell, ← Array.getElem?_toList, hcs0]; rfl
  · exact ⟨(key 47 966 981 (by decide) rfl).1, (key 23 837 921 (by decide) rfl).1, (key 11 452 453 (by decide) rfl).1, (key 5 197 229 (by decide) rfl).1, (key 8 304 304 (by decide) rfl).1, (key 10 383 83 (by decide) rfl).1, (key 9 305 305 (by decide) rfl).1, (key 10 383 83 (by decide) rfl).2⟩
theorem foldT_of_laid {W : World} {l : List (String × DataW Unit)} (h : laidMet Tryz.prog l W) (h1 : ("unicode.asciiFold", Rows.laid_unicode_asciiFold) ∈ l) (h2 : ("unicode.caseOrbit", Rows.laid_unicode_caseOrbit) ∈ l) : FoldT W :=
  ⟨asc_of_reads (Lib.laidMet.reads h h1), orb_of_reads (Lib.laidMet.reads h h2)⟩
end Go.Proofs.YtmimipgmhgalaaaGreatDoor.PAll
end
section
namespace Go.Proofs.YtmimipgmhgalaaaGreatDoor.Sha
open Go.RowKit Go.Proofs.YtmimipgmhgalaaaGreatDoorW.PrintWords Go.Proofs.YtmimipgmhgalaaaGreatDoor.Plain Go.Proofs.YtmimipgmhgalaaaGreatDoor.PAll
set_option linter.unusedSimpArgs false
set_option linter.unusedVariables false
def first : List Nat := [0x6a09e667, 0xbb67ae85, 0x3c6ef372, 0xa54ff53a, 0x510e527f, 0x9b05688c, 0x1f83d9ab, 0x5be0cd19]
def toI (p : List Nat) : List Int := p.map (fun x : Nat => (Int.ofNat x : Int))
theorem toI_len (p : List Nat) : (toI p).length = p.length := List.length_map _
theorem toI_getD (p : List Nat) (j : Nat) : (toI p).getD j 0 = ((p.getD j 0 : Nat) : Int) := by
  unfold toI
  rw [List.getD_eq_getElem?_getD, List.getElem?_map, List.getD_eq_getElem?_getD]
  cases p[j]? <;> rfl
theorem bitOr (a i b : Nat) (hb : b < 2 ^ i) : a * 2 ^ i ||| b = a * 2 ^ i + b := by
  rw [Nat.mul_comm, ← Nat.two_pow_add_eq_or_of_lt hb]
def une : List Nat → List Nat × Nat
  | [] => ([], 0)
  | [x] => ([], x)
  | [x, y] => ([x * 4 + y / 16], y % 16)
  | [x, y, z] => ([x * 4 + y / 16, y % 16 * 16 + z / 4], z % 4)
  | x :: y :: z :: t :: r => ((x * 4 + y / 16) :: (y % 16 * 16 + z / 4) :: (z % 4 * 64 + t) :: (une r).1, (une r).2)
def Lt (b : Nat) (l : List Nat) : Prop := ∀ x ∈ l, x < b
theorem Lt.cons {b x : Nat} {l : List Nat} (h : Lt b (x :: l)) : x < b ∧ Lt b l := ⟨h x (by simp), fun y hy => h y (by simp [hy])⟩
theorem Lt.mk {b x : Nat} {l : List Nat} (h : x < b) (t : Lt b l) : Lt b (x :: l) := fun y hy => by
  rcases List.mem_cons.1 hy with rfl | hy
  · exact h
  · exact t y hy
theorem Lt.nil (b : Nat) : Lt b [] := fun x hx => by simp at hx
theorem une_len : ∀ (v : List Nat), (une v).1.length ≤ v.length
  | [] => by simp [une]
  | [x] => by simp [une]
  | [x, y] => by simp [une]
  | [x, y, z] => by simp [une]
  | x :: y :: z :: t :: r => by
    have := une_len r
    simp only [une, List.length_cons]
    omega
def al64 : List Nat := [65, 66, 67, 68, 69, 70, 71, 72, 73, 74, 75, 76, 77, 78, 79, 80, 81, 82, 83, 84, 85, 86, 87, 88, 89, 90, 97, 98, 99, 100, 101, 102, 103, 104, 105, 106, 107, 108, 109, 110, 111, 112, 113, 114, 115, 116, 117, 118, 119, 120, 121, 122, 48, 49, 50, 51, 52, 53, 54, 55, 56, 57, 45, 95]
def value (al : List Nat) (c : Nat) : Nat := al.idxOf c
def bad (al : List Nat) : List Nat → Nat → Option Nat
  | [], _ => none
  | c :: r, i => if c ∈ al then bad al r (i + 1) else some i
theorem good {al : List Nat} : ∀ (s : List Nat) (i : Nat), bad al s i = none → ∀ c ∈ s, c ∈ al
  | [], _, _ => fun c hc => by simp at hc
  | x :: s, i, h => fun c hc => by
    by_cases hx : x ∈ al
    · rw [bad, if_pos hx] at h
      rcases List.mem_cons.1 hc with rfl | hc
      · exact hx
      · exact good s (i + 1) h c hc
    · rw [bad, if_neg hx] at h
      cases h
theorem value_lt {al : List Nat} (s : List Nat) (h : ∀ c ∈ s, c ∈ al) : Lt al.length (s.map (value al)) := by
  intro x hx
  obtain ⟨c, hc, rfl⟩ := List.mem_map.1 hx
  exact List.idxOf_lt_length_iff.2 (h c hc)
def from64 (s : List Nat) : List Nat × Nat × Nat :=
  if s.length > 65536 then ([], 1, 0) else
  match bad al64 s 0 with
  | some i => ([], 20, i)
  | none => if s.length % 4 = 1 then ([], 3, s.length) else if (une (s.map (value al64))).2 = 0 then ((une (s.map (value al64))).1, 0, 0) else ([], 21, s.length - 1)
theorem from64_len (s : List Nat) : (from64 s).1.length ≤ 65536 := by
  unfold from64
  by_cases h1 : s.length > 65536
  · rw [if_pos h1]; simp
  rw [if_neg h1]
  cases hb : bad al64 s 0 with
  | some i => simp
  | none =>
    simp only []
    by_cases h2 : s.length % 4 = 1
    · rw [if_pos h2]; simp
    rw [if_neg h2]
    by_cases h3 : (une (s.map (value al64))).2 = 0
    · rw [if_pos h3]
      have := une_len (s.map (value al64))
      rw [List.length_map] at this
      show (une (s.map (value al64))).1.length ≤ 65536
      omega
    · rw [if_neg h3]; simp
theorem i64_small (x : Nat) (h : x < 4611686018427387904) : IntKind.i64.wrap (x : Int) = (x : Int) := IntWalk.i64_in _ (by omega)
theorem ofInt_64 (x : Nat) (h : x < 4611686018427387904) : (BitVec.ofInt 64 (x : Int)).toNat = x := by simp; omega
theorem or_i64 (a i b : Nat) (hb : b < 2 ^ i) (hs : a * 2 ^ i + b < 4611686018427387904) : bits .or .i64 ((a * 2 ^ i : Nat) : Int) (b : Int) = ((a * 2 ^ i + b : Nat) : Int) := by
  show IntKind.i64.wrap ((BitVec.ofInt 64 ((a * 2 ^ i : Nat) : Int) ||| BitVec.ofInt 64 (b : Int)).toNat : Int) = _
  rw [BitVec.toNat_or, ofInt_64 _ (by omega), ofInt_64 _ (by omega), bitOr a i b hb, i64_small _ hs]
theorem and_i64 (m j : Nat) (hm : m < 4611686018427387904) (hj : 2 ^ j - 1 < 4611686018427387904) : bits .and .i64 (m : Int) ((2 ^ j - 1 : Nat) : Int) = ((m % 2 ^ j : Nat) : Int) := by
  show IntKind.i64.wrap ((BitVec.ofInt 64 (m : Int) &&& BitVec.ofInt 64 ((2 ^ j - 1 : Nat) : Int)).toNat : Int) = _
  rw [BitVec.toNat_and, ofInt_64 _ hm, ofInt_64 _ hj, Nat.and_two_pow_sub_one_eq_mod, i64_small _ (Nat.lt_of_le_of_lt (Nat.mod_le _ _) hm)]
def sN (s : ByteArray) : List Nat := s.data.toList.map UInt8.toNat
theorem sN_len (s : ByteArray) : (sN s).length = s.size := by simp [sN]
theorem sN_all (s : ByteArray) : Lt 256 (sN s) := fun x hx => by
  obtain ⟨c, _, rfl⟩ := List.mem_map.1 hx
  exact c.toNat_lt
theorem bt_sN (s : ByteArray) (i : Nat) (h : i < s.size) : bt s (i : Int) = (((sN s).getD i 0 : Nat) : Int) := by
  have h' : i < (sN s).length := by rw [sN_len]; exact h
  rw [List.getD_eq_getElem?_getD, List.getElem?_eq_getElem h']
  unfold bt
  rw [dif_pos (by simpa using h)]
  simp [sN]
  rfl
theorem rd_toI (p : List Nat) (i : Nat) : rd (toI p) (i : Int) = ((p.getD i 0 : Nat) : Int) := by unfold rd; rw [Int.toNat_natCast, toI_getD]
theorem drop_at {d : List Nat} {p : List Nat} {i x : Nat} (h : p.drop i = x :: d) : i < p.length ∧ p.getD i 0 = x ∧ p.drop (i + 1) = d := by
  have hl : i < p.length := by
    rcases Nat.lt_or_ge i p.length with h1 | h1
    · exact h1
    · rw [List.drop_eq_nil_of_le h1] at h; cases h
  rw [List.drop_eq_getElem_cons hl] at h
  injection h with h1 h2
  exact ⟨hl, by rw [List.getD_eq_getElem?_getD, List.getElem?_eq_getElem hl]; exact h1, h2⟩
theorem drop_none {p : List Nat} {i : Nat} (h : p.drop i = []) : p.length ≤ i := by
  rcases Nat.lt_or_ge i p.length with h1 | h1
  · rw [List.drop_eq_getElem_cons h1] at h; cases h
  · exact h1
def vat (al : List Nat) (c i : Nat) : Int := if c ∈ al then ((i + value al c : Nat) : Int) else -1
theorem vat_cons (al : List Nat) (x c i : Nat) : vat (x :: al) c i = if x = c then (i : Int) else vat al c (i + 1) := by
  unfold vat value
  by_cases h : x = c
  · subst h
    simp
  · have h' : ¬ (c = x) := fun e => h e.symm
    rw [if_neg h]
    simp only [List.mem_cons, h', false_or]
    by_cases hm : c ∈ al
    · rw [if_pos hm, if_pos hm, List.idxOf_cons]
      have : (x == c) = false := by simpa using h
      rw [this]
      simp
      omega
    · rw [if_neg hm, if_neg hm]
theorem place_ev (A : ByteArray) (c : Nat) (hs : A.size ≤ 1000) : ∀ (d : List Nat) (i : Nat), (sN A).drop i = d → Ev (fun k => digest_place.l0 k A (c : Int) (A.size : Int) (i : Int)) (vat d c i)
  | [], i, hd => by
    have h := drop_none hd
    rw [sN_len] at h
    refine Ev.step (f := fun _ => some (-1)) (fun k => ?_) (Ev.eq (Ev.now _) (by simp [vat]))
    simp only [digest_place.l0]
    rw [if_neg (by omega)]
  | x :: d, i, hd => by
    obtain ⟨h1, h2, h3⟩ := drop_at hd
    rw [sN_len] at h1
    have hx := bt_sN A i h1
    rw [h2] at hx
    rw [vat_cons]
    by_cases hc : x = c
    · refine Ev.step (f := fun _ => some (i : Int)) (fun k => ?_) (Ev.eq (Ev.now _) (by rw [if_pos hc]))
      simp only [digest_place.l0]
      rw [if_pos (by omega), if_pos (by omega), if_pos (by omega), if_pos (by rw [hx, hc])]
    · refine Ev.eq (Ev.step (fun k => ?_) (place_ev A c hs d (i + 1) h3)) (by rw [if_neg hc])
      simp only [digest_place.l0]
      rw [if_pos (by omega), if_pos (by omega), if_pos (by omega), if_neg (by rw [hx]; omega), w64 (by omega) (by omega)]
      rfl
theorem values_ev (A s : ByteArray) (hA : A.size ≤ 1000) (hs : s.size ≤ 65536) : ∀ (d : List Nat) (i : Nat) (out : List Nat), (sN s).drop i = d → out.length ≤ i →
    Ev (fun k => digest_values.l0 k A s (toI out) (s.size : Int) (i : Int)) (match bad (sN A) d i with | some j => (([] : List Int), 20, (j : Int)) | none => (toI (out ++ d.map (value (sN A))), 0, 0))
  | [], i, out, hd, ho => by
    have h := drop_none hd
    rw [sN_len] at h
    refine Ev.step (f := fun _ => some (toI out, 0, 0)) (fun k => ?_) (Ev.eq (Ev.now _) (by simp [bad]))
    simp only [digest_values.l0]
    rw [if_neg (by omega)]
  | x :: d, i, out, hd, ho => by
    obtain ⟨h1, h2, h3⟩ := drop_at hd
    rw [sN_len] at h1
    have hx := bt_sN s i h1
    rw [h2] at hx
    have hp := place_ev A x hA (sN A) 0 (by simp)
    by_cases hc : x ∈ sN A
    · have hv : vat (sN A) x 0 = ((value (sN A) x : Nat) : Int) := by unfold vat; rw [if_pos hc, Nat.zero_add]
      rw [hv] at hp
      rw [bad, if_pos hc]
      refine Ev.step (f := fun k => (digest_place.f k A (bt s (i : Int))).bind fun t110 => (if t110 < 0 then (some (([] : List Int), 20, (i : Int))) else (if (toI out).length < 17592186044416 then (digest_values.l0 k A s (toI out ++ [t110]) (s.size : Int) (wrap64 ((i : Int) + 1))) else (none)))) (fun k => ?_) (Ev.bind (a := ((value (sN A) x : Nat) : Int)) (by rw [hx]; exact hp) (Ev.neg (by omega) (Ev.pos (by rw [toI_len]; omega) ?_)))
      · simp only [digest_values.l0]
        rw [if_pos (by omega), if_pos (by omega), if_pos (by omega)]
      · have ih := values_ev A s hA hs d (i + 1) (out ++ [value (sN A) x]) h3 (by simp; omega)
        rw [w64 (by omega) (by omega)]
        have e : toI (out ++ [value (sN A) x]) = toI out ++ [((value (sN A) x : Nat) : Int)] := by simp [toI]
        rw [e] at ih
        refine Ev.eq ih ?_
        rw [List.append_assoc]
        rfl
    · have hv : vat (sN A) x 0 = -1 := by unfold vat; rw [if_neg hc]
      rw [hv] at hp
      rw [bad, if_neg hc]
      refine Ev.step (f := fun k => (digest_place.f k A (bt s (i : Int))).bind fun t110 => (if t110 < 0 then (some (([] : List Int), 20, (i : Int))) else (if (toI out).length < 17592186044416 then (digest_values.l0 k A s (toI out ++ [t110]) (s.size : Int) (wrap64 ((i : Int) + 1))) else (none)))) (fun k => ?_) (Ev.bind (a := (-1 : Int)) (by rw [hx]; exact hp) (Ev.pos (by omega) (Ev.now _)))
      simp only [digest_values.l0]
      rw [if_pos (by omega), if_pos (by omega), if_pos (by omega)]
abbrev A64 : ByteArray := ⟨#[65, 66, 67, 68, 69, 70, 71, 72, 73, 74, 75, 76, 77, 78, 79, 80, 81, 82, 83, 84, 85, 86, 87, 88, 89, 90, 97, 98, 99, 100, 101, 102, 103, 104, 105, 106, 107, 108, 109, 110, 111, 112, 113, 114, 115, 116, 117, 118, 119, 120, 121, 122, 48, 49, 50, 51, 52, 53, 54, 55, 56, 57, 45, 95]⟩
theorem sN64 : sN A64 = al64 := by kernel_rfl
theorem vals_ev (A s : ByteArray) (hA : A.size ≤ 1000) : Ev (fun k => digest_values.f k A s) (if s.size > 65536 then (([] : List Int), 1, 0) else match bad (sN A) (sN s) 0 with | some j => (([] : List Int), 20, (j : Int)) | none => (toI ((sN s).map (value (sN A))), 0, 0)) := by
  unfold digest_values.f
  by_cases h : s.size > 65536
  · exact Ev.pos (by omega) (Ev.eq (Ev.now _) (by rw [if_pos h]))
  · refine Ev.neg (by omega) (Ev.eq (values_ev A s hA (by omega) (sN s) 0 [] (by simp) (by simp)) ?_)
    rw [if_neg h, List.nil_append]
theorem toI_push (out : List Nat) (x : Nat) : toI out ++ [(x : Int)] = toI (out ++ [x]) := by simp [toI]
def fin64 (n : Nat) (out : List Nat) (u : List Nat × Nat) : List Int × Int × Int := if u.2 = 0 then (toI (out ++ u.1), 0, 0) else (([] : List Int), 21, (n : Int) - 1)
theorem step_in (V : List Nat) (i : Nat) (h : i < V.length) (hl : V.length ≤ 65536) : (i : Int) < (V.length : Int) ∧ (0 : Int) ≤ (i : Int) ∧ (i : Int) < ((toI V).length : Int) ∧ wrap64 ((i : Int) + 1) = ((i + 1 : Nat) : Int) := by
  rw [toI_len]
  exact ⟨by omega, by omega, by omega, by rw [w64 (by omega) (by omega)]; rfl⟩
theorem put6 (n x : Nat) (hn : n < 1000) (hx : x < 64) : bits .or .i64 (wrap64 ((n : Int) * 64)) (x : Int) = ((n * 64 + x : Nat) : Int) := by
  rw [w64 (by omega) (by omega)]
  exact or_i64 n 6 x hx (by omega)
theorem q6 : wrap64 (0 + 6) = 6 := (w64 (by decide) (by decide)).trans rfl
theorem q12 : wrap64 (6 + 6) = 12 := (w64 (by decide) (by decide)).trans rfl
theorem q4 : wrap64 (12 - 8) = 4 := (w64 (by decide) (by decide)).trans rfl
theorem q10 : wrap64 (4 + 6) = 10 := (w64 (by decide) (by decide)).trans rfl
theorem q2 : wrap64 (10 - 8) = 2 := (w64 (by decide) (by decide)).trans rfl
theorem q8 : wrap64 (2 + 6) = 8 := (w64 (by decide) (by decide)).trans rfl
theorem q0 : wrap64 (8 - 8) = 0 := (w64 (by decide) (by decide)).trans rfl
theorem m4 : wrap64 (shl .i64 1 4 - 1) = 15 := by kernel_rfl
theorem m2 : wrap64 (shl .i64 1 2 - 1) = 3 := by kernel_rfl
theorem m0 : wrap64 (shl .i64 1 0 - 1) = 0 := by kernel_rfl
theorem shr_nat (X : Int) (j : Nat) (h : j ≤ 64) : shr .i64 X (j : Int) = X / 2 ^ j := by
  unfold shr
  rw [Int.toNat_natCast, Nat.min_eq_left (show j ≤ IntKind.i64.bits from h)]
theorem s0 (s : ByteArray) (out V : List Nat) (i x : Nat) (hi : i < V.length) (hx : V.getD i 0 = x) (hxl : x < 64) (hl : V.length ≤ 65536) (k : Nat) :
    digest_FromBase64.l0 (k + 1) s (toI out) 0 0 (toI V) (V.length : Int) (i : Int) = digest_FromBase64.l0 k s (toI out) (x : Int) 6 (toI V) (V.length : Int) ((i + 1 : Nat) : Int) := by
  obtain ⟨h1, h2, h3, h4⟩ := step_in V i hi hl
  have hp := put6 0 x (by omega) hxl
  rw [Nat.zero_mul, Nat.zero_add] at hp
  simp only [digest_FromBase64.l0, q6]
  rw [if_pos h1, if_pos h2, if_pos h3, if_neg (by decide), rd_toI, hx, h4]
  exact congrArg (fun z => digest_FromBase64.l0 k s (toI out) z 6 (toI V) (V.length : Int) ((i + 1 : Nat) : Int)) hp
theorem s6 (s : ByteArray) (out V : List Nat) (i n x : Nat) (hi : i < V.length) (hx : V.getD i 0 = x) (hn : n < 64) (hxl : x < 64) (hl : V.length ≤ 65536) (ho : out.length < 140737488355328) (k : Nat) :
    digest_FromBase64.l0 (k + 1) s (toI out) (n : Int) 6 (toI V) (V.length : Int) (i : Int) = digest_FromBase64.l0 k s (toI (out ++ [n * 4 + x / 16])) ((x % 16 : Nat) : Int) 4 (toI V) (V.length : Int) ((i + 1 : Nat) : Int) := by
  obtain ⟨h1, h2, h3, h4⟩ := step_in V i hi hl
  have hp := put6 n x (by omega) hxl
  have hs : shr .i64 ((n * 64 + x : Nat) : Int) 4 % 256 = ((n * 4 + x / 16 : Nat) : Int) := by
    have := shr_nat ((n * 64 + x : Nat) : Int) 4 (by decide)
    rw [show ((4 : Nat) : Int) = 4 from rfl] at this
    rw [this]
    omega
  have ha : bits .and .i64 ((n * 64 + x : Nat) : Int) 15 = ((x % 16 : Nat) : Int) := by
    have := and_i64 (n * 64 + x) 4 (by omega) (by decide)
    rw [show (n * 64 + x) % 2 ^ 4 = x % 16 by omega] at this
    exact this
  simp only [digest_FromBase64.l0, q12, q4, m4]
  rw [if_pos h1, if_pos h2, if_pos h3, if_pos (by decide), if_pos (by decide), if_pos (by rw [toI_len]; omega), rd_toI, hx, h4, hp, hs, ha, toI_push]
theorem s4 (s : ByteArray) (out V : List Nat) (i n x : Nat) (hi : i < V.length) (hx : V.getD i 0 = x) (hn : n < 16) (hxl : x < 64) (hl : V.length ≤ 65536) (ho : out.length < 140737488355328) (k : Nat) :
    digest_FromBase64.l0 (k + 1) s (toI out) (n : Int) 4 (toI V) (V.length : Int) (i : Int) = digest_FromBase64.l0 k s (toI (out ++ [n * 16 + x / 4])) ((x % 4 : Nat) : Int) 2 (toI V) (V.length : Int) ((i + 1 : Nat) : Int) := by
  obtain ⟨h1, h2, h3, h4⟩ := step_in V i hi hl
  have hp := put6 n x (by omega) hxl
  have hs : shr .i64 ((n * 64 + x : Nat) : Int) 2 % 256 = ((n * 16 + x / 4 : Nat) : Int) := by
    have := shr_nat ((n * 64 + x : Nat) : Int) 2 (by decide)
    rw [show ((2 : Nat) : Int) = 2 from rfl] at this
    rw [this]
    omega
  have ha : bits .and .i64 ((n * 64 + x : Nat) : Int) 3 = ((x % 4 : Nat) : Int) := by
    have := and_i64 (n * 64 + x) 2 (by omega) (by decide)
    rw [show (n * 64 + x) % 2 ^ 2 = x % 4 by omega] at this
    exact this
  simp only [digest_FromBase64.l0, q10, q2, m2]
  rw [if_pos h1, if_pos h2, if_pos h3, if_pos (by decide), if_pos (by decide), if_pos (by rw [toI_len]; omega), rd_toI, hx, h4, hp, hs, ha, toI_push]
theorem s2 (s : ByteArray) (out V : List Nat) (i n x : Nat) (hi : i < V.length) (hx : V.getD i 0 = x) (hn : n < 4) (hxl : x < 64) (hl : V.length ≤ 65536) (ho : out.length < 140737488355328) (k : Nat) :
    digest_FromBase64.l0 (k + 1) s (toI out) (n : Int) 2 (toI V) (V.length : Int) (i : Int) = digest_FromBase64.l0 k s (toI (out ++ [n * 64 + x])) 0 0 (toI V) (V.length : Int) ((i + 1 : Nat) : Int) := by
  obtain ⟨h1, h2, h3, h4⟩ := step_in V i hi hl
  have hp := put6 n x (by omega) hxl
  have hs : shr .i64 ((n * 64 + x : Nat) : Int) 0 % 256 = ((n * 64 + x : Nat) : Int) := by
    have := shr_nat ((n * 64 + x : Nat) : Int) 0 (by decide)
    rw [show ((0 : Nat) : Int) = 0 from rfl] at this
    rw [this]
    omega
  have ha : bits .and .i64 ((n * 64 + x : Nat) : Int) 0 = (0 : Int) := by
    have := and_i64 (n * 64 + x) 0 (by omega) (by decide)
    rw [show (n * 64 + x) % 2 ^ 0 = 0 by omega] at this
    exact this
  simp only [digest_FromBase64.l0, q8, q0, m0]
  rw [if_pos h1, if_pos h2, if_pos h3, if_pos (by decide), if_pos (by decide), if_pos (by rw [toI_len]; omega), rd_toI, hx, h4, hp, hs, ha, toI_push]
theorem sEnd (s : ByteArray) (out V : List Nat) (i n : Nat) (h : Int) (hi : V.length ≤ i) (hs : s.size ≤ 65536) (k : Nat) :
    digest_FromBase64.l0 (k + 1) s (toI out) (n : Int) h (toI V) (V.length : Int) (i : Int) = some (fin64 s.size out ([], n)) := by
  simp only [digest_FromBase64.l0]
  rw [if_neg (by omega)]
  unfold fin64
  by_cases hn : n = 0
  · rw [if_pos (by omega), if_pos hn, List.append_nil]
  · rw [if_neg (by omega), if_neg hn, w64 (by omega) (by omega)]
theorem un64_ev (s : ByteArray) (V : List Nat) (hs : s.size ≤ 65536) (hl : V.length ≤ 65536) (hV : Lt 64 V) : ∀ (d : List Nat) (i : Nat) (out : List Nat), V.drop i = d → out.length ≤ i →
    Ev (fun k => digest_FromBase64.l0 k s (toI out) 0 0 (toI V) (V.length : Int) (i : Int)) (fin64 s.size out (une d))
  | [], i, out, hd, ho => Ev.step (f := fun _ => some (fin64 s.size out ([], 0))) (fun k => sEnd s out V i 0 0 (drop_none hd) hs k) (Ev.now _)
  | [x], i, out, hd, ho => by
    obtain ⟨a1, a2, a3⟩ := drop_at hd
    have ax : x < 64 := a2 ▸ hV _ (by rw [List.getD_eq_getElem?_getD, List.getElem?_eq_getElem a1]; exact List.getElem_mem a1)
    exact Ev.step (fun k => s0 s out V i x a1 a2 ax hl k) (Ev.step (f := fun _ => some (fin64 s.size out ([], x))) (fun k => sEnd s out V (i + 1) x 6 (drop_none a3) hs k) (Ev.now _))
  | [x, y], i, out, hd, ho => by
    obtain ⟨a1, a2, a3⟩ := drop_at hd
    obtain ⟨b1, b2, b3⟩ := drop_at a3
    have ax : x < 64 := a2 ▸ hV _ (by rw [List.getD_eq_getElem?_getD, List.getElem?_eq_getElem a1]; exact List.getElem_mem a1)
    have bx : y < 64 := b2 ▸ hV _ (by rw [List.getD_eq_getElem?_getD, List.getElem?_eq_getElem b1]; exact List.getElem_mem b1)
    refine Ev.eq (Ev.step (fun k => s0 s out V i x a1 a2 ax hl k) (Ev.step (fun k => s6 s out V (i + 1) x y b1 b2 ax bx hl (by omega) k) (Ev.step (f := fun _ => some (fin64 s.size (out ++ [x * 4 + y / 16]) ([], y % 16))) (fun k => sEnd s _ V (i + 1 + 1) (y % 16) 4 (drop_none b3) hs k) (Ev.now _)))) ?_
    simp only [fin64, une, List.append_assoc, List.cons_append, List.nil_append, List.append_nil]
    rfl
  | [x, y, z], i, out, hd, ho => by
    obtain ⟨a1, a2, a3⟩ := drop_at hd
    obtain ⟨b1, b2, b3⟩ := drop_at a3
    obtain ⟨c1, c2, c3⟩ := drop_at b3
    have ax : x < 64 := a2 ▸ hV _ (by rw [List.getD_eq_getElem?_getD, List.getElem?_eq_getElem a1]; exact List.getElem_mem a1)
    have bx : y < 64 := b2 ▸ hV _ (by rw [List.getD_eq_getElem?_getD, List.getElem?_eq_getElem b1]; exact List.getElem_mem b1)
    have cx : z < 64 := c2 ▸ hV _ (by rw [List.getD_eq_getElem?_getD, List.getElem?_eq_getElem c1]; exact List.getElem_mem c1)
    refine Ev.eq (Ev.step (fun k => s0 s out V i x a1 a2 ax hl k) (Ev.step (fun k => s6 s out V (i + 1) x y b1 b2 ax bx hl (by omega) k) (Ev.step (fun k => s4 s (out ++ [x * 4 + y / 16]) V (i + 1 + 1) (y % 16) z c1 c2 (by omega) cx hl (by simp; omega) k)
      (Ev.step (f := fun _ => some (fin64 s.size (out ++ [x * 4 + y / 16] ++ [y % 16 * 16 + z / 4]) ([], z % 4))) (fun k => sEnd s _ V (i + 1 + 1 + 1) (z % 4) 2 (drop_none c3) hs k) (Ev.now _))))) ?_
    simp only [fin64, une, List.append_assoc, List.cons_append, List.nil_append, List.append_nil]
    rfl
  | x :: y :: z :: t :: r, i, out, hd, ho => by
    obtain ⟨a1, a2, a3⟩ := drop_at hd
    obtain ⟨b1, b2, b3⟩ := drop_at a3
    obtain ⟨c1, c2, c3⟩ := drop_at b3
    obtain ⟨d1, d2, d3⟩ := drop_at c3
    have ax : x < 64 := a2 ▸ hV _ (by rw [List.getD_eq_getElem?_getD, List.getElem?_eq_getElem a1]; exact List.getElem_mem a1)
    have bx : y < 64 := b2 ▸ hV _ (by rw [List.getD_eq_getElem?_getD, List.getElem?_eq_getElem b1]; exact List.getElem_mem b1)
    have cx : z < 64 := c2 ▸ hV _ (by rw [List.getD_eq_getElem?_getD, List.getElem?_eq_getElem c1]; exact List.getElem_mem c1)
    have dx : t < 64 := d2 ▸ hV _ (by rw [List.getD_eq_getElem?_getD, List.getElem?_eq_getElem d1]; exact List.getElem_mem d1)
    have ih := un64_ev s V hs hl hV r (i + 1 + 1 + 1 + 1) (out ++ [x * 4 + y / 16] ++ [y % 16 * 16 + z / 4] ++ [z % 4 * 64 + t]) d3 (by simp; omega)
    refine Ev.eq (Ev.step (fun k => s0 s out V i x a1 a2 ax hl k) (Ev.step (fun k => s6 s out V (i + 1) x y b1 b2 ax bx hl (by omega) k) (Ev.step (fun k => s4 s (out ++ [x * 4 + y / 16]) V (i + 1 + 1) (y % 16) z c1 c2 (by omega) cx hl (by simp; omega) k)
      (Ev.step (fun k => s2 s (out ++ [x * 4 + y / 16] ++ [y % 16 * 16 + z / 4]) V (i + 1 + 1 + 1) (z % 4) t d1 d2 (by omega) dx hl (by simp; omega) k) ih)))) ?_
    simp only [fin64, une, List.append_assoc, List.cons_append, List.nil_append, List.append_nil]
    rfl
def tri (r : List Nat × Nat × Nat) : List Int × Int × Int := (toI r.1, (r.2.1 : Int), (r.2.2 : Int))
theorem from64_ev (s : ByteArray) : Ev (fun k => digest_FromBase64.f k s) (tri (from64 (sN s))) := by
  unfold digest_FromBase64.f
  refine Ev.bind (vals_ev A64 s (by decide)) ?_
  rw [sN64]
  unfold from64
  rw [sN_len]
  by_cases h : s.size > 65536
  · rw [if_pos h, if_pos h]
    exact Ev.neg (by decide) (Ev.now _)
  · rw [if_neg h, if_neg h]
    cases hb : bad al64 (sN s) 0 with
    | some j => exact Ev.neg (by simp) (Ev.now _)
    | none =>
      have hl : ((sN s).map (value al64)).length = s.size := by rw [List.length_map, sN_len]
      simp only []
      refine Ev.pos (by simp) ?_
      by_cases h4 : s.size % 4 = 1
      · rw [if_pos h4]
        exact Ev.pos (by rw [toI_len, hl]; omega) (Ev.now _)
      · rw [if_neg h4]
        refine Ev.neg (by rw [toI_len, hl]; omega) ?_
        have hv : Lt 64 ((sN s).map (value al64)) := value_lt _ (good _ 0 hb)
        have hh := un64_ev s ((sN s).map (value al64)) (by omega) (by rw [hl]; omega) hv ((sN s).map (value al64)) 0 [] (by simp) (by simp)
        rw [toI_len]
        refine Ev.eq hh ?_
        unfold fin64
        by_cases h0 : (une ((sN s).map (value al64))).2 = 0
        · rw [if_pos h0, if_pos h0, List.nil_append]
          rfl
        · rw [if_neg h0, if_neg h0]
          have : s.size ≠ 0 := fun e => h0 (by
            have : (sN s).map (value al64) = [] := List.eq_nil_of_length_eq_zero (by rw [hl, e])
            rw [this]; rfl)
          show (([] : List Int), (21 : Int), (s.size : Int) - 1) = _
          unfold tri
          simp only []
          rw [show ((s.size - 1 : Nat) : Int) = (s.size : Int) - 1 by omega]
          rfl
end Go.Proofs.YtmimipgmhgalaaaGreatDoor.Sha
end
section
namespace Go.Proofs.YtmimipgmhgalaaaGreatDoor.Sha
open Go.RowKit Go.Proofs.YtmimipgmhgalaaaGreatDoorW.PrintWords Go.Proofs.YtmimipgmhgalaaaGreatDoor.Plain Go.Proofs.YtmimipgmhgalaaaGreatDoor.PAll
set_option linter.unusedSimpArgs false
set_option linter.unusedVariables false
def mapPl (c : Nat) : Nat := if c = 43 then 45 else if c = 47 then 95 else c
def okc (c : Nat) : Prop := c ≠ 45 ∧ c ≠ 95 ∧ mapPl c ∈ al64
instance (c : Nat) : Decidable (okc c) := inferInstanceAs (Decidable (_ ∧ _ ∧ _))
def v6 (c : Nat) : Nat := value al64 (mapPl c)
def sixI (c : Nat) : Int := if okc c then (v6 c : Int) else -1
theorem six_all : ∀ c : Nat, c < 256 → wicketref11_six.f 5 (c : Int) = some (sixI c) := by decide +kernel
theorem six_ev (c : Nat) (h : c < 256) : Ev (fun k => wicketref11_six.f k (c : Int)) (sixI c) := Ev.of (fun k => wicketref11_six.mono _ k) (six_all c h)
theorem v6_lt (c : Nat) (h : okc c) : v6 c < 64 := by
  have := value_lt (al := al64) [mapPl c] (by simpa using h.2.2)
  exact this (v6 c) (by simp [v6])
def bits6 (v : Nat) : List Nat := [v / 32 % 2, v / 16 % 2, v / 8 % 2, v / 4 % 2, v / 2 % 2, v / 1 % 2]
theorem bitq (v j : Nat) (hv : v < 64) : Int.tmod (wrap64 (Int.tdiv (v : Int) (j : Int))) 2 = ((v / j % 2 : Nat) : Int) := by
  have h1 : v / j ≤ v := Nat.div_le_self _ _
  rw [← Int.ofNat_tdiv]
  generalize v / j = q at h1 ⊢
  rw [w64 (by omega) (by omega)]
  exact (Int.ofNat_tmod q 2).symm
theorem l2_ev {r : ByteArray × Bool} (s : ByteArray) (n : Int) (acc : List Nat) (i : Int) (v : Nat) (hv : v < 64) (ha : acc.length < 1000000) (h : Ev (fun k => wicketref11_decoded.l1 k s n (toI (acc ++ bits6 v)) (wrap64 (i + 1))) r) : Ev (fun k => wicketref11_decoded.l2 k s n (toI acc) i (v : Int) 32) r := by
  have b32 := bitq v 32 hv
  have b16 := bitq v 16 hv
  have b8 := bitq v 8 hv
  have b4 := bitq v 4 hv
  have b2 := bitq v 2 hv
  have b1 := bitq v 1 hv
  have hl (l : List Nat) (hl : l.length < 6) : (toI (acc ++ l)).length < 17592186044416 := by rw [toI_len, List.length_append]; omega
  have e (l : List Nat) (x : Nat) : toI (acc ++ l) ++ [(x : Int)] = toI (acc ++ (l ++ [x])) := by rw [toI_push, List.append_assoc]
  rw [← List.append_nil acc]
  refine Ev.step (f := fun k => wicketref11_decoded.l2 k s n (toI (acc ++ [v / 32 % 2])) i (v : Int) 16) (fun k => ?_) ?_
  · simp only [wicketref11_decoded.l2]
    rw [if_pos (by decide), if_neg (by decide), if_pos (hl [] (by simp)), show Int.tmod (wrap64 (Int.tdiv (v : Int) 32)) 2 = _ from b32, e, show wrap64 (Int.tdiv 32 2) = 16 from by kernel_rfl]
    rfl
  refine Ev.step (f := fun k => wicketref11_decoded.l2 k s n (toI (acc ++ [v / 32 % 2, v / 16 % 2])) i (v : Int) 8) (fun k => ?_) ?_
  · simp only [wicketref11_decoded.l2]
    rw [if_pos (by decide), if_neg (by decide), if_pos (hl _ (by simp)), show Int.tmod (wrap64 (Int.tdiv (v : Int) 16)) 2 = _ from b16, e, show wrap64 (Int.tdiv 16 2) = 8 from by kernel_rfl]
    rfl
  refine Ev.step (f := fun k => wicketref11_decoded.l2 k s n (toI (acc ++ [v / 32 % 2, v / 16 % 2, v / 8 % 2])) i (v : Int) 4) (fun k => ?_) ?_
  · simp only [wicketref11_decoded.l2]
    rw [if_pos (by decide), if_neg (by decide), if_pos (hl _ (by simp)), show Int.tmod (wrap64 (Int.tdiv (v : Int) 8)) 2 = _ from b8, e, show wrap64 (Int.tdiv 8 2) = 4 from by kernel_rfl]
    rfl
  refine Ev.step (f := fun k => wicketref11_decoded.l2 k s n (toI (acc ++ [v / 32 % 2, v / 16 % 2, v / 8 % 2, v / 4 % 2])) i (v : Int) 2) (fun k => ?_) ?_
  · simp only [wicketref11_decoded.l2]
    rw [if_pos (by decide), if_neg (by decide), if_pos (hl _ (by simp)), show Int.tmod (wrap64 (Int.tdiv (v : Int) 4)) 2 = _ from b4, e, show wrap64 (Int.tdiv 4 2) = 2 from by kernel_rfl]
    rfl
  refine Ev.step (f := fun k => wicketref11_decoded.l2 k s n (toI (acc ++ [v / 32 % 2, v / 16 % 2, v / 8 % 2, v / 4 % 2, v / 2 % 2])) i (v : Int) 1) (fun k => ?_) ?_
  · simp only [wicketref11_decoded.l2]
    rw [if_pos (by decide), if_neg (by decide), if_pos (hl _ (by simp)), show Int.tmod (wrap64 (Int.tdiv (v : Int) 2)) 2 = _ from b2, e, show wrap64 (Int.tdiv 2 2) = 1 from by kernel_rfl]
    rfl
  refine Ev.step (f := fun k => wicketref11_decoded.l2 k s n (toI (acc ++ bits6 v)) i (v : Int) 0) (fun k => ?_) ?_
  · simp only [wicketref11_decoded.l2]
    rw [if_pos (by decide), if_neg (by decide), if_pos (hl _ (by simp)), show Int.tmod (wrap64 (Int.tdiv (v : Int) 1)) 2 = _ from b1, e, show wrap64 (Int.tdiv 1 2) = 0 from by kernel_rfl]
    rfl
  refine Ev.step (f := fun k => wicketref11_decoded.l1 k s n (toI (acc ++ bits6 v)) (wrap64 (i + 1))) (fun k => ?_) h
  simp only [wicketref11_decoded.l2]
  rw [if_neg (by decide)]
theorem at_take {s : ByteArray} {n i x : Nat} {d : List Nat} (hn : n ≤ s.size) (h : ((sN s).take n).drop i = x :: d) : i < n ∧ bt s (i : Int) = (x : Int) ∧ x < 256 ∧ ((sN s).take n).drop (i + 1) = d := by
  obtain ⟨h1, h2, h3⟩ := drop_at h
  rw [List.length_take, sN_len] at h1
  have hi : i < n := by omega
  have h4 : (sN s).getD i 0 = x := by rw [← h2, List.getD_eq_getElem?_getD, List.getD_eq_getElem?_getD, List.getElem?_take, if_pos hi]
  refine ⟨hi, by rw [bt_sN s i (by omega), h4], ?_, h3⟩
  have : x ∈ (sN s).take n := by
    have : x ∈ ((sN s).take n).drop i := by rw [h]; simp
    exact List.mem_of_mem_drop this
  exact sN_all s x (List.mem_of_mem_take this)
theorem l1_good {r : ByteArray × Bool} (s : ByteArray) (n : Nat) (hn : n ≤ s.size) (hs : s.size ≤ 65536) : ∀ (d : List Nat) (i : Nat) (acc : List Nat), ((sN s).take n).drop i = d → acc.length = 6 * i → i + d.length ≤ n → (∀ c ∈ d, okc c) →
    Ev (fun k => wicketref11_decoded.l3 k (toI (acc ++ d.flatMap fun c => bits6 (v6 c))) ([] : List Int)) r → Ev (fun k => wicketref11_decoded.l1 k s (n : Int) (toI acc) (i : Int)) r
  | [], i, acc, hd, ha, hi, hok, h => by
    have h1 := drop_none hd
    rw [List.length_take, sN_len] at h1
    refine Ev.step (f := fun k => wicketref11_decoded.l3 k (toI acc) ([] : List Int)) (fun k => ?_) (by simpa using h)
    simp only [wicketref11_decoded.l1]
    rw [if_neg (by omega)]
  | x :: d, i, acc, hd, ha, hi, hok, h => by
    obtain ⟨h1, h2, h3, h4⟩ := at_take hn hd
    have hx := hok x (by simp)
    have hv := v6_lt x hx
    have h6 : sixI x = (v6 x : Int) := if_pos hx
    refine Ev.step (f := fun k => (wicketref11_six.f k (x : Int)).bind fun t441 => (if t441 < 0 then (some ((⟨#[]⟩ : ByteArray), false)) else (wicketref11_decoded.l2 k s (n : Int) (toI acc) (i : Int) t441 32))) (fun k => ?_) ?_
    · simp only [wicketref11_decoded.l1]
      rw [if_pos (by omega), if_pos (by omega), if_pos (by omega), h2]
    · refine Ev.bind (six_ev x h3) ?_
      rw [h6]
      refine Ev.neg (by omega) (l2_ev s _ acc _ _ hv (by omega) ?_)
      rw [w64 (by omega) (by omega)]
      refine l1_good s n hn hs d (i + 1) _ h4 (by rw [List.length_append, ha]; simp [bits6]; omega) (by simp only [List.length_cons] at hi; omega) (fun c hc => hok c (by simp [hc])) ?_
      rw [List.append_assoc]
      simpa using h
theorem l1_bad (s : ByteArray) (n : Nat) (hn : n ≤ s.size) (hs : s.size ≤ 65536) : ∀ (d : List Nat) (i : Nat) (acc : List Nat), ((sN s).take n).drop i = d → acc.length = 6 * i → (∃ c ∈ d, ¬ okc c) →
    Ev (fun k => wicketref11_decoded.l1 k s (n : Int) (toI acc) (i : Int)) ((⟨#[]⟩ : ByteArray), false)
  | [], i, acc, hd, ha, hok => by obtain ⟨c, hc, _⟩ := hok; cases hc
  | x :: d, i, acc, hd, ha, hok => by
    obtain ⟨h1, h2, h3, h4⟩ := at_take hn hd
    refine Ev.step (f := fun k => (wicketref11_six.f k (x : Int)).bind fun t441 => (if t441 < 0 then (some ((⟨#[]⟩ : ByteArray), false)) else (wicketref11_decoded.l2 k s (n : Int) (toI acc) (i : Int) t441 32))) (fun k => ?_) ?_
    · simp only [wicketref11_decoded.l1]
      rw [if_pos (by omega), if_pos (by omega), if_pos (by omega), h2]
    refine Ev.bind (six_ev x h3) ?_
    by_cases hx : okc x
    · have hv := v6_lt x hx
      have h6 : sixI x = (v6 x : Int) := if_pos hx
      rw [h6]
      refine Ev.neg (by omega) (l2_ev s _ acc _ _ hv (by omega) ?_)
      rw [w64 (by omega) (by omega)]
      refine l1_bad s n hn hs d (i + 1) _ h4 (by rw [List.length_append, ha]; simp [bits6]; omega) ?_
      obtain ⟨c, hc, hb⟩ := hok
      rcases List.mem_cons.1 hc with rfl | hc
      · exact absurd hx hb
      · exact ⟨c, hc, hb⟩
    · have h6 : sixI x = -1 := if_neg hx
      rw [h6]
      exact Ev.pos (by decide) (Ev.now _)
def packs : List Nat → List Nat × List Nat
  | b0 :: b1 :: b2 :: b3 :: b4 :: b5 :: b6 :: b7 :: r => ((2 * (2 * (2 * (2 * (2 * (2 * (2 * b0 + b1) + b2) + b3) + b4) + b5) + b6) + b7) :: (packs r).1, (packs r).2)
  | l => ([], l)
theorem dbl (c b : Nat) (hc : c < 100000) (hb : b < 2) : wrap64 (wrap64 (2 * (c : Int)) + (b : Int)) = ((2 * c + b : Nat) : Int) := by
  rw [w64 (x := 2 * (c : Int)) (by omega) (by omega), w64 (by omega) (by omega)]
  omega
theorem l4_step {r : ByteArray × Bool} (bits out : List Nat) (c j b : Nat) (hc : c < 100000) (hb : b < 2) (hj : j < 8) (hl : j < bits.length) (hm : bits.length < 1000000) (hg : bits.getD j 0 = b) (h : Ev (fun k => wicketref11_decoded.l4 k (toI bits) (toI out) ((2 * c + b : Nat) : Int) ((j + 1 : Nat) : Int)) r) :
    Ev (fun k => wicketref11_decoded.l4 k (toI bits) (toI out) (c : Int) (j : Int)) r := by
  refine Ev.step (fun k => ?_) h
  simp only [wicketref11_decoded.l4]
  rw [if_pos (by omega), if_pos (by omega), if_pos (by rw [toI_len]; omega), rd_toI, hg, dbl c b hc hb, w64 (by omega) (by omega)]
  rfl
theorem l4_ev {r : ByteArray × Bool} (b0 b1 b2 b3 b4 b5 b6 b7 : Nat) (l out : List Nat) (h0 : b0 < 2) (h1 : b1 < 2) (h2 : b2 < 2) (h3 : b3 < 2) (h4 : b4 < 2) (h5 : b5 < 2) (h6 : b6 < 2) (h7 : b7 < 2) (hm : l.length < 900000) (ho : out.length < 1000000)
    (h : Ev (fun k => wicketref11_decoded.l3 k (toI l) (toI (out ++ [2 * (2 * (2 * (2 * (2 * (2 * (2 * b0 + b1) + b2) + b3) + b4) + b5) + b6) + b7]))) r) :
    Ev (fun k => wicketref11_decoded.l4 k (toI (b0 :: b1 :: b2 :: b3 :: b4 :: b5 :: b6 :: b7 :: l)) (toI out) 0 0) r := by
  have hlen : (b0 :: b1 :: b2 :: b3 :: b4 :: b5 :: b6 :: b7 :: l).length = l.length + 8 := rfl
  refine l4_step _ _ 0 0 b0 (by omega) h0 (by omega) (by omega) (by omega) rfl ?_
  refine l4_step _ _ _ 1 b1 (by omega) h1 (by omega) (by omega) (by omega) rfl ?_
  refine l4_step _ _ _ 2 b2 (by omega) h2 (by omega) (by omega) (by omega) rfl ?_
  refine l4_step _ _ _ 3 b3 (by omega) h3 (by omega) (by omega) (by omega) rfl ?_
  refine l4_step _ _ _ 4 b4 (by omega) h4 (by omega) (by omega) (by omega) rfl ?_
  refine l4_step _ _ _ 5 b5 (by omega) h5 (by omega) (by omega) (by omega) rfl ?_
  refine l4_step _ _ _ 6 b6 (by omega) h6 (by omega) (by omega) (by omega) rfl ?_
  refine l4_step _ _ _ 7 b7 (by omega) h7 (by omega) (by omega) (by omega) rfl ?_
  refine Ev.step (fun k => ?_) h
  simp only [wicketref11_decoded.l4]
  rw [if_neg (by omega), if_pos (by rw [toI_len]; omega), if_pos (by rw [toI_len]; omega), ← toI_push]
  have e : ((2 * (2 * (2 * (2 * (2 * (2 * (2 * (2 * 0 + b0) + b1) + b2) + b3) + b4) + b5) + b6) + b7 : Nat) : Int) % 256 = ((2 * (2 * (2 * (2 * (2 * (2 * (2 * b0 + b1) + b2) + b3) + b4) + b5) + b6) + b7 : Nat) : Int) := by omega
  rw [e]
  rfl
def fin (out rest : List Nat) : ByteArray × Bool := if ∀ b ∈ rest, b = 0 then (strOfNums (toI out), decide (rest.length < 6)) else ((⟨#[]⟩ : ByteArray), false)
theorem l5_ev (out rest : List Nat) (hr : rest.length < 100000) : ∀ (d : List Nat) (i : Nat), rest.drop i = d → i ≤ rest.length → Ev (fun k => wicketref11_decoded.l5 k (toI rest) (toI out) (i : Int)) (if ∀ b ∈ d, b = 0 then (strOfNums (toI out), decide (rest.length < 6)) else ((⟨#[]⟩ : ByteArray), false))
  | [], i, hd, hi => by
    have h1 := drop_none hd
    refine Ev.step (f := fun _ => some (strOfNums (toI out), decide (((toI rest).length : Int) < 6))) (fun k => ?_) (Ev.eq (Ev.now _) ?_)
    · simp only [wicketref11_decoded.l5]
      rw [if_neg (by rw [toI_len]; omega)]
    · rw [if_pos (by simp), toI_len]
      congr 1
      rw [decide_eq_decide]; omega
  | x :: d, i, hd, hi => by
    obtain ⟨h1, h2, h3⟩ := drop_at hd
    by_cases hx : x = 0
    · refine Ev.step (f := fun k => wicketref11_decoded.l5 k (toI rest) (toI out) ((i + 1 : Nat) : Int)) (fun k => ?_) (Ev.eq (l5_ev out rest hr d (i + 1) h3 (by omega)) ?_)
      · simp only [wicketref11_decoded.l5]
        rw [if_pos (by rw [toI_len]; omega), if_pos (by omega), rd_toI, h2, if_pos (by omega), w64 (by omega) (by omega)]
        rfl
      · simp [hx]
    · refine Ev.step (f := fun _ => some ((⟨#[]⟩ : ByteArray), false)) (fun k => ?_) (Ev.eq (Ev.now _) ?_)
      · simp only [wicketref11_decoded.l5]
        rw [if_pos (by rw [toI_len]; omega), if_pos (by omega), rd_toI, h2, if_neg (by omega)]
      · rw [if_neg (fun h => hx (h x (by simp)))]
theorem uncons {n : Nat} {l : List Nat} (h : n + 1 ≤ l.length) : ∃ x r, l = x :: r ∧ n ≤ r.length := by
  match l, h with
  | x :: r, h => exact ⟨x, r, rfl, by simpa using h⟩
theorem packs_cons (b0 b1 b2 b3 b4 b5 b6 b7 : Nat) (r : List Nat) : packs (b0 :: b1 :: b2 :: b3 :: b4 :: b5 :: b6 :: b7 :: r) = ((2 * (2 * (2 * (2 * (2 * (2 * (2 * b0 + b1) + b2) + b3) + b4) + b5) + b6) + b7) :: (packs r).1, (packs r).2) := rfl
theorem bit8 (b0 b1 b2 b3 b4 b5 b6 b7 c : Nat) (r a b : List Nat) (h : 2 * (2 * (2 * (2 * (2 * (2 * (2 * b0 + b1) + b2) + b3) + b4) + b5) + b6) + b7 = c) (hr : packs r = (a, b)) : packs (b0 :: b1 :: b2 :: b3 :: b4 :: b5 :: b6 :: b7 :: r) = (c :: a, b) := by
  rw [packs_cons, h, hr]
theorem l3_ev : ∀ (m : Nat) (bits out : List Nat), bits.length ≤ m → bits.length < 900000 → (∀ b ∈ bits, b < 2) → out.length + bits.length < 1000000 → Ev (fun k => wicketref11_decoded.l3 k (toI bits) (toI out)) (fin (out ++ (packs bits).1) (packs bits).2) := by
  intro m
  induction m using Nat.strongRecOn with
  | ind m ih =>
    intro bits out hm hl hb ho
    by_cases h8 : bits.length < 8
    · have hp : packs bits = ([], bits) := by
        match bits, h8 with
        | [], _ => rfl
        | [_], _ => rfl
        | [_, _], _ => rfl
        | [_, _, _], _ => rfl
        | [_, _, _, _], _ => rfl
        | [_, _, _, _, _], _ => rfl
        | [_, _, _, _, _, _], _ => rfl
        | [_, _, _, _, _, _, _], _ => rfl
        | _ :: _ :: _ :: _ :: _ :: _ :: _ :: _ :: _, h => simp at h; omega
      rw [hp, List.append_nil]
      refine Ev.step (f := fun k => wicketref11_decoded.l5 k (toI bits) (toI out) ((0 : Nat) : Int)) (fun k => ?_) (l5_ev out bits (by omega) bits 0 rfl (by omega))
      simp only [wicketref11_decoded.l3]
      rw [if_neg (by rw [toI_len]; omega)]
      rfl
    · obtain ⟨b0, r0, rfl, g0⟩ := uncons (n := 7) (show 7 + 1 ≤ bits.length by omega)
      obtain ⟨b1, r1, rfl, g1⟩ := uncons (n := 6) g0
      obtain ⟨b2, r2, rfl, g2⟩ := uncons (n := 5) g1
      obtain ⟨b3, r3, rfl, g3⟩ := uncons (n := 4) g2
      obtain ⟨b4, r4, rfl, g4⟩ := uncons (n := 3) g3
      obtain ⟨b5, r5, rfl, g5⟩ := uncons (n := 2) g4
      obtain ⟨b6, r6, rfl, g6⟩ := uncons (n := 1) g5
      obtain ⟨b7, l, rfl, g7⟩ := uncons (n := 0) g6
      clear g0 g1 g2 g3 g4 g5 g6 g7
      simp only [List.length_cons] at hm hl ho
      refine Ev.step (f := fun k => wicketref11_decoded.l4 k (toI (b0 :: b1 :: b2 :: b3 :: b4 :: b5 :: b6 :: b7 :: l)) (toI out) 0 0) (fun k => ?_) ?_
      · simp only [wicketref11_decoded.l3]
        rw [if_pos (by rw [toI_len]; simp only [List.length_cons]; omega)]
      refine l4_ev b0 b1 b2 b3 b4 b5 b6 b7 l out (hb _ (by simp)) (hb _ (by simp)) (hb _ (by simp)) (hb _ (by simp)) (hb _ (by simp)) (hb _ (by simp)) (hb _ (by simp)) (hb _ (by simp)) (by omega) (by omega) ?_
      have := ih l.length (by omega) l (out ++ [2 * (2 * (2 * (2 * (2 * (2 * (2 * b0 + b1) + b2) + b3) + b4) + b5) + b6) + b7]) (Nat.le_refl _) (by omega) (fun b h => hb b (by simp [h])) (by rw [List.length_append]; simp; omega)
      rw [List.append_assoc] at this
      exact this
def tailB : List Nat → List Nat
  | [] => []
  | [x] => bits6 x
  | [x, y] => [y / 8 % 2, y / 4 % 2, y / 2 % 2, y / 1 % 2]
  | [x, y, z] => [z / 2 % 2, z / 1 % 2]
  | _ :: _ :: _ :: _ :: r => tailB r
theorem pk1 (x y : Nat) (hx : x < 64) (hy : y < 64) : 2 * (2 * (2 * (2 * (2 * (2 * (2 * (x / 32 % 2) + x / 16 % 2) + x / 8 % 2) + x / 4 % 2) + x / 2 % 2) + x / 1 % 2) + y / 32 % 2) + y / 16 % 2 = x * 4 + y / 16 := by omega
theorem pk2 (y z : Nat) (hy : y < 64) (hz : z < 64) : 2 * (2 * (2 * (2 * (2 * (2 * (2 * (y / 8 % 2) + y / 4 % 2) + y / 2 % 2) + y / 1 % 2) + z / 32 % 2) + z / 16 % 2) + z / 8 % 2) + z / 4 % 2 = y % 16 * 16 + z / 4 := by omega
theorem pk3 (z t : Nat) (hz : z < 64) (ht : t < 64) : 2 * (2 * (2 * (2 * (2 * (2 * (2 * (z / 2 % 2) + z / 1 % 2) + t / 32 % 2) + t / 16 % 2) + t / 8 % 2) + t / 4 % 2) + t / 2 % 2) + t / 1 % 2 = z % 4 * 64 + t := by omega
theorem packs_une : ∀ v : List Nat, Lt 64 v → packs (v.flatMap bits6) = ((une v).1, tailB v)
  | [], _ => rfl
  | [x], h => rfl
  | [x, y], h => bit8 _ _ _ _ _ _ _ _ _ _ _ _ (pk1 x y (h x (by simp)) (h y (by simp))) rfl
  | [x, y, z], h => bit8 _ _ _ _ _ _ _ _ _ _ _ _ (pk1 x y (h x (by simp)) (h y (by simp))) (bit8 _ _ _ _ _ _ _ _ _ _ _ _ (pk2 y z (h y (by simp)) (h z (by simp))) rfl)
  | x :: y :: z :: t :: r, h => bit8 _ _ _ _ _ _ _ _ _ _ _ _ (pk1 x y (h x (by simp)) (h y (by simp))) (bit8 _ _ _ _ _ _ _ _ _ _ _ _ (pk2 y z (h y (by simp)) (h z (by simp))) (bit8 _ _ _ _ _ _ _ _ _ _ _ _ (pk3 z t (h z (by simp)) (h t (by simp))) (packs_une r (fun c hc => h c (by simp [hc])))))
theorem tail_une : ∀ v : List Nat, Lt 64 v → ((tailB v).length < 6 ↔ v.length % 4 ≠ 1) ∧ (v.length % 4 ≠ 1 → ((∀ b ∈ tailB v, b = 0) ↔ (une v).2 = 0))
  | [], _ => by simp [tailB, une]
  | [x], h => by simp [tailB, une, bits6]
  | [x, y], h => by
    have hy := h y (by simp)
    simp [tailB, une]
    omega
  | [x, y, z], h => by
    have hz := h z (by simp)
    simp [tailB, une]
    omega
  | x :: y :: z :: t :: r, h => by
    have ih := tail_une r (fun c hc => h c (by simp [hc]))
    simp only [tailB, une, List.length_cons]
    rw [show (r.length + 1 + 1 + 1 + 1) % 4 = r.length % 4 by omega]
    exact ih
end Go.Proofs.YtmimipgmhgalaaaGreatDoor.Sha
end
section
namespace Go.Proofs.YtmimipgmhgalaaaGreatDoor.Sha
open Go.RowKit Go.Proofs.YtmimipgmhgalaaaGreatDoorW.PrintWords Go.Proofs.YtmimipgmhgalaaaGreatDoor.Plain Go.Proofs.YtmimipgmhgalaaaGreatDoor.PAll Go.Proofs.YtmimipgmhgalaaaGreatDoor.Spec
set_option linter.unusedSimpArgs false
set_option linter.unusedVariables false
structure Bare (l m : List UInt8) (p : Nat) : Prop where
  eq : l = m ++ List.replicate p 61
  le : p ≤ 2
  all : p < 2 → m = [] ∨ ∃ q y, m = q ++ [y] ∧ y ≠ 61
theorem last_or (l : List UInt8) : l = [] ∨ (∃ m, l = m ++ [61]) ∨ ∃ q y, l = q ++ [y] ∧ y ≠ 61 := by
  rcases List.eq_nil_or_concat l with h | ⟨q, y, h⟩
  · exact .inl h
  rw [List.concat_eq_append] at h
  by_cases hy : y = 61
  · exact .inr (.inl ⟨q, by rw [h, hy]⟩)
  · exact .inr (.inr ⟨q, y, h, hy⟩)
theorem bare_of (l : List UInt8) : ∃ m p, Bare l m p := by
  rcases last_or l with h | ⟨m, h⟩ | h
  · exact ⟨[], 0, ⟨h, by omega, fun _ => .inl rfl⟩⟩
  · rcases last_or m with h2 | ⟨m2, h2⟩ | h2
    · exact ⟨m, 1, ⟨h, by omega, fun _ => .inl h2⟩⟩
    · exact ⟨m2, 2, ⟨by rw [h, h2, List.append_assoc]; rfl, by omega, fun h => by omega⟩⟩
    · exact ⟨m, 1, ⟨h, by omega, fun _ => .inr h2⟩⟩
  · exact ⟨l, 0, ⟨by simp, by omega, fun _ => .inr h⟩⟩
theorem trim_last (q : List UInt8) (y : UInt8) : Lib.trimSuffix (q ++ [y]) [61] = if y = 61 then q else q ++ [y] := by
  unfold Lib.trimSuffix Lib.hasSuffix
  by_cases hy : y = 61
  · subst hy
    rw [if_pos (by simp [List.isSuffixOf, List.isPrefixOf]), if_pos rfl]
    simp
  · rw [if_neg (by simp [List.isSuffixOf, List.isPrefixOf]; exact fun h => hy h.symm), if_neg hy]
theorem trim_bare {l m : List UInt8} {p : Nat} (h : Bare l m p) : Lib.trimSuffix (Lib.trimSuffix l [61]) [61] = m := by
  have hl := h.le
  have h2 := h.all
  rw [h.eq]
  match p, hl, h2 with
  | 0, _, h2 =>
    rw [List.replicate_zero, List.append_nil]
    rcases h2 (by omega) with rfl | ⟨q, y, rfl, hy⟩
    · rfl
    · rw [trim_last, if_neg hy, trim_last, if_neg hy]
  | 1, _, h2 =>
    rw [show List.replicate 1 (61 : UInt8) = [61] from rfl, trim_last, if_pos rfl]
    rcases h2 (by omega) with rfl | ⟨q, y, rfl, hy⟩
    · rfl
    · rw [trim_last, if_neg hy]
  | 2, _, _ =>
    rw [show m ++ List.replicate 2 (61 : UInt8) = (m ++ [61]) ++ [61] by rw [List.append_assoc]; rfl, trim_last, if_pos rfl, trim_last, if_pos rfl]
def nN (l : List UInt8) : List Nat := l.map UInt8.toNat
theorem nN_sN (s : ByteArray) : sN s = nN s.data.toList := rfl
theorem bt_end {s : ByteArray} (hs : s.size ≤ 65536) {q e : List UInt8} {y : UInt8} (h : s.data.toList = q ++ y :: e) : ((e.length : Nat) : Int) < (s.size : Int) ∧ (0 : Int) ≤ wrap64 (wrap64 ((s.size : Int) - 1) - (e.length : Int)) ∧ wrap64 (wrap64 ((s.size : Int) - 1) - (e.length : Int)) < (s.size : Int) ∧ bt s (wrap64 (wrap64 ((s.size : Int) - 1) - (e.length : Int))) = (y.toNat : Int) := by
  have h1 : s.size = q.length + (e.length + 1) := by
    have : s.data.toList.length = s.size := by simp
    rw [← this, h, List.length_append, List.length_cons]
  have h2 : wrap64 (wrap64 ((s.size : Int) - 1) - (e.length : Int)) = ((q.length : Nat) : Int) := by
    rw [w64 (x := (s.size : Int) - 1) (by omega) (by omega), w64 (by omega) (by omega)]; omega
  rw [h2]
  refine ⟨by omega, by omega, by omega, ?_⟩
  rw [bt_sN s _ (by omega), nN_sN, h]
  unfold nN
  rw [List.map_append, List.getD_eq_getElem?_getD, List.getElem?_append_right (by simp)]
  simp
theorem pad_ev {r : ByteArray × Bool} {s : ByteArray} (hs : s.size ≤ 65536) {m : List UInt8} {p : Nat} (h : Bare s.data.toList m p) (hr : Ev (fun k => wicketref11_decoded.j1 k s (p : Int)) r) : Ev (fun k => wicketref11_decoded.l0 k s 0) r := by
  have hl := h.le
  have h2 := h.all
  have heq := h.eq
  have hsz : s.data.toList.length = s.size := by simp
  have stop (j : Nat) (hj : j < 2) (q e : List UInt8) (y : UInt8) (he : e.length = j) (hy : y ≠ 61) (hq : s.data.toList = q ++ y :: e) (hp : p = j) : Ev (fun k => wicketref11_decoded.l0 k s (j : Int)) r := by
    obtain ⟨a1, a2, a3, a4⟩ := bt_end hs hq
    rw [he] at a1 a2 a3 a4
    subst hp
    refine Ev.step (fun k => ?_) hr
    simp only [wicketref11_decoded.l0]
    rw [if_pos (by omega), if_pos a1, if_pos a2, if_pos a3, a4, if_neg (fun h => hy (UInt8.toNat_inj.1 (by exact Int.ofNat.inj h)))]
  have over (j : Nat) (hj : j < 2) (he : s.size = j) (hp : p = j) : Ev (fun k => wicketref11_decoded.l0 k s (j : Int)) r := by
    subst hp
    refine Ev.step (fun k => ?_) hr
    simp only [wicketref11_decoded.l0]
    rw [if_pos (by omega), if_neg (by omega)]
  have more (j : Nat) (hj : j < 2) (q e : List UInt8) (he : e.length = j) (hq : s.data.toList = q ++ 61 :: e) (hn : Ev (fun k => wicketref11_decoded.l0 k s ((j + 1 : Nat) : Int)) r) : Ev (fun k => wicketref11_decoded.l0 k s (j : Int)) r := by
    obtain ⟨a1, a2, a3, a4⟩ := bt_end hs hq
    rw [he] at a1 a2 a3 a4
    refine Ev.step (fun k => ?_) hn
    simp only [wicketref11_decoded.l0]
    rw [if_pos (by omega), if_pos a1, if_pos a2, if_pos a3, a4, if_pos (by decide), w64 (by omega) (by omega)]
    rfl
  match p, hl, h2, heq, hr, stop, over with
  | 0, _, h2, heq, hr, stop, over =>
    rw [List.replicate_zero, List.append_nil] at heq
    rcases h2 (by omega) with rfl | ⟨q, y, rfl, hy⟩
    · exact over 0 (by omega) (by rw [← hsz, heq]; rfl) rfl
    · exact stop 0 (by omega) q [] y rfl hy heq rfl
  | 1, _, h2, heq, hr, stop, over =>
    refine more 0 (by omega) m [] rfl heq ?_
    rcases h2 (by omega) with rfl | ⟨q, y, rfl, hy⟩
    · exact over 1 (by omega) (by rw [← hsz, heq]; rfl) rfl
    · exact stop 1 (by omega) q [61] y rfl hy (by rw [heq, List.append_assoc]; rfl) rfl
  | 2, _, _, heq, hr, stop, over =>
    refine more 0 (by omega) (m ++ [61]) [] rfl (by rw [heq, List.append_assoc]; rfl) (more 1 (by omega) m [61] rfl heq ?_)
    refine Ev.step (fun k => ?_) hr
    simp only [wicketref11_decoded.l0]
    rw [if_neg (by omega)]
def decB (m : List Nat) : Option (List Nat) := if (∀ c ∈ m, okc c) ∧ m.length % 4 ≠ 1 ∧ (une (m.map v6)).2 = 0 then some (une (m.map v6)).1 else none
def DecR (o : Option (List Nat)) (x : ByteArray) (ok : Bool) : Prop := match o with | some p => ok = true ∧ x = strOfNums (toI p) | none => ok = false
theorem map_v6_lt {m : List Nat} (h : ∀ c ∈ m, okc c) : Lt 64 (m.map v6) := fun x hx => by
  obtain ⟨c, hc, rfl⟩ := List.mem_map.1 hx
  exact v6_lt c (h c hc)
theorem flat_bits (m : List Nat) : (m.flatMap fun c => bits6 (v6 c)) = (m.map v6).flatMap bits6 := by
  rw [List.flatMap_map]
theorem bits_len (v : List Nat) : (v.flatMap bits6).length = 6 * v.length := by
  induction v with
  | nil => rfl
  | cons x r ih => rw [List.flatMap_cons, List.length_append, ih, List.length_cons]; simp [bits6]; omega
theorem bits_two (v : List Nat) : ∀ b ∈ v.flatMap bits6, b < 2 := fun b hb => by
  obtain ⟨x, _, hx⟩ := List.mem_flatMap.1 hb
  simp only [bits6, List.mem_cons, List.not_mem_nil, or_false] at hx
  omega
theorem decoded_ev {s : ByteArray} (hs : s.size ≤ 65536) {m : List UInt8} {p : Nat} (h : Bare s.data.toList m p) (h4 : s.size % 4 = 0) : ∃ x ok, Ev (fun k => wicketref11_decoded.f k s) (x, ok) ∧ DecR (decB (nN m)) x ok := by
  have hsz : s.data.toList.length = s.size := by simp
  have hm : m.length + p = s.size := by rw [← hsz, h.eq, List.length_append, List.length_replicate]
  have htk : (sN s).take m.length = nN m := by
    rw [nN_sN, h.eq]; unfold nN; rw [List.map_append, List.take_left' (by simp)]
  have start {r : ByteArray × Bool} (hr : Ev (fun k => wicketref11_decoded.l1 k s (m.length : Int) (toI []) ((0 : Nat) : Int)) r) : Ev (fun k => wicketref11_decoded.f k s) r := by
    unfold wicketref11_decoded.f
    refine Ev.pos (by omega) (pad_ev hs h (Ev.step (fun k => ?_) hr))
    simp only [wicketref11_decoded.j1]
    rw [w64 (by omega) (by omega), show (s.size : Int) - (p : Int) = (m.length : Int) by omega]
    rfl
  by_cases hok : ∀ c ∈ nN m, okc c
  · have hv := map_v6_lt hok
    have hlm : (nN m).length = m.length := by simp [nN]
    have h3 := l3_ev _ ((nN m).flatMap fun c => bits6 (v6 c)) [] (Nat.le_refl _) (by rw [flat_bits, bits_len, List.length_map]; omega) (by rw [flat_bits]; exact bits_two _) (by rw [flat_bits, bits_len, List.length_map]; simp; omega)
    have hp := packs_une _ hv
    rw [← flat_bits] at hp
    rw [List.nil_append, hp] at h3
    have ht := tail_une _ hv
    rw [List.length_map] at ht
    refine ⟨(fin (une ((nN m).map v6)).1 (tailB ((nN m).map v6))).1, (fin (une ((nN m).map v6)).1 (tailB ((nN m).map v6))).2, start (l1_good s m.length (by omega) hs (nN m) 0 [] (by rw [htk]; rfl) rfl (by omega) hok h3), ?_⟩
    unfold fin decB
    by_cases h1 : (nN m).length % 4 ≠ 1
    · by_cases hz : (une ((nN m).map v6)).2 = 0
      · rw [if_pos ((ht.2 h1).2 hz), if_pos ⟨hok, h1, hz⟩]
        exact ⟨decide_eq_true (ht.1.2 h1), rfl⟩
      · rw [if_neg (fun hx => hz ((ht.2 h1).1 hx)), if_neg (fun hx => hz hx.2.2)]
        exact rfl
    · rw [if_neg (fun hx => h1 hx.2.1)]
      unfold DecR
      show Prod.snd _ = false
      by_cases hz : ∀ b ∈ tailB ((nN m).map v6), b = 0
      · rw [if_pos hz]; exact decide_eq_false (fun hx => h1 (ht.1.1 hx))
      · rw [if_neg hz]
  · have hbad : ∃ c ∈ nN m, ¬ okc c := by
      apply Classical.byContradiction
      intro hn
      exact hok (fun c hc => Classical.byContradiction fun hx => hn ⟨c, hc, hx⟩)
    refine ⟨_, _, start (l1_bad s m.length (by omega) hs (nN m) 0 [] (by rw [htk]; rfl) rfl hbad), ?_⟩
    unfold decB DecR
    rw [if_neg (fun hx => hok hx.1)]
theorem strN_size (p : List Nat) : (strOfNums (toI p)).size = p.length := by
  have h := congrArg List.length (Lib.strOfNums_toList (toI p))
  rw [ByteArray.toList_eq] at h
  unfold Lib.bytesOf at h
  rw [List.length_map, toI_len] at h
  rw [← h]; simp
theorem bad_none {al : List Nat} : ∀ (v : List Nat) (i : Nat), (∀ c ∈ v, c ∈ al) → bad al v i = none
  | [], _, _ => rfl
  | c :: r, i, h => by rw [bad, if_pos (h c (by simp))]; exact bad_none r (i + 1) (fun d hd => h d (by simp [hd]))
theorem nN_rep (m : List UInt8) : nN (repL 47 95 (repL 43 45 m)) = (nN m).map mapPl := by
  unfold nN repL
  rw [List.map_map, List.map_map, List.map_map]
  apply List.map_congr_left
  intro c _
  show UInt8.toNat (if (if c = 43 then 45 else c) = 47 then 95 else (if c = 43 then 45 else c)) = mapPl c.toNat
  unfold mapPl
  by_cases h1 : c = 43
  · subst h1; rfl
  · have h1' : c.toNat ≠ 43 := fun e => h1 (UInt8.toNat_inj.1 e)
    rw [if_neg h1, if_neg h1']
    by_cases h2 : c = 47
    · subst h2; rfl
    · have h2' : c.toNat ≠ 47 := fun e => h2 (UInt8.toNat_inj.1 e)
      rw [if_neg h2, if_neg h2']
theorem hasDU_iff (l : List UInt8) : hasDU l = true ↔ ∃ c ∈ l, c.toNat = 45 ∨ c.toNat = 95 := by
  unfold hasDU
  rw [List.any_eq_true]
  simp [isDU]
theorem common_ev {s : ByteArray} (hs : s.size ≤ 65536) {m : List UInt8} {p : Nat} (h : Bare s.data.toList m p) (h4 : s.size % 4 = 0) : ∃ x ok, Ev (fun k => client_common.f k s) (x, ok) ∧ DecR (decB (nN m)) x ok ∧ x.size ≤ 65536 := by
  have hsz : s.data.toList.length = s.size := by simp
  have hm : m.length + p = s.size := by rw [← hsz, h.eq, List.length_append, List.length_replicate]
  have hp := h.le
  have hrl : (repL 47 95 (repL 43 45 m)).length = m.length := by simp [repL]
  unfold client_common.f
  by_cases hd : hasDU s.data.toList = true
  · refine ⟨_, _, Ev.pos (by omega) (Ev.bind (a := true) (Ev.eq (s := true) (Ev.congr (f := fun _ => some (hasDU s.data.toList)) (fun _ => if_pos ⟨by omega, rfl⟩) (Ev.now _)) hd) (Ev.step (f := fun _ => some ((⟨#[]⟩ : ByteArray), false)) (fun k => by simp only [client_common.j0, if_true]) (Ev.now _))), ?_, by decide⟩
    obtain ⟨c, hc, hcd⟩ := (hasDU_iff _).1 hd
    have hcm : c ∈ m := by
      rw [h.eq] at hc
      rcases List.mem_append.1 hc with hc | hc
      · exact hc
      · rw [(List.mem_replicate.1 hc).2] at hcd; exact absurd hcd (by decide)
    unfold decB DecR
    rw [if_neg (fun hx => by
      have h1 := hx.1 c.toNat (List.mem_map.2 ⟨c, hcm, rfl⟩)
      rcases hcd with e | e
      · exact h1.1 e
      · exact h1.2.1 e)]
  · have hd' : hasDU s.data.toList = false := by simpa using hd
    have hno : ∀ c ∈ m, c.toNat ≠ 45 ∧ c.toNat ≠ 95 := fun c hc => by
      have hcl : c ∈ s.data.toList := by rw [h.eq]; exact List.mem_append_left _ hc
      exact ⟨fun e => hd ((hasDU_iff _).2 ⟨c, hcl, .inl e⟩), fun e => hd ((hasDU_iff _).2 ⟨c, hcl, .inr e⟩)⟩
    have hok : (∀ c ∈ nN m, okc c) ↔ ∀ c ∈ (nN m).map mapPl, c ∈ al64 := by
      constructor
      · intro hx c hc
        obtain ⟨d, hd, rfl⟩ := List.mem_map.1 hc
        exact (hx d hd).2.2
      · intro hx c hc
        obtain ⟨d, hd, rfl⟩ := List.mem_map.1 hc
        have := hno d hd
        exact ⟨this.1, this.2, hx _ (List.mem_map.2 ⟨_, hc, rfl⟩)⟩
    have hv : ((nN m).map mapPl).map (value al64) = (nN m).map v6 := by rw [List.map_map]; rfl
    have hnl : (nN m).length = m.length := by simp [nN]
    let T : ByteArray := ⟨(repL 47 95 (repL 43 45 m)).toArray⟩
    have hT : sN T = (nN m).map mapPl := nN_rep m
    have hTs : T.size = m.length := by rw [← hrl]; show (repL 47 95 (repL 43 45 m)).toArray.size = _; simp
    have hF := from64_ev T
    rw [hT] at hF
    have key : (∃ pp, decB (nN m) = some pp ∧ from64 ((nN m).map mapPl) = (pp, 0, 0)) ∨ (decB (nN m) = none ∧ (from64 ((nN m).map mapPl)).2.1 ≠ 0) := by
      have hF64 : from64 ((nN m).map mapPl) = (match bad al64 ((nN m).map mapPl) 0 with
          | some i => ([], 20, i)
          | none => if (nN m).length % 4 = 1 then ([], 3, (nN m).length) else if (une ((nN m).map v6)).2 = 0 then ((une ((nN m).map v6)).1, 0, 0) else ([], 21, (nN m).length - 1)) := by
        unfold from64
        rw [if_neg (by rw [List.length_map, hnl]; omega), hv, List.length_map]
        all_goals (cases bad al64 ((nN m).map mapPl) 0 <;> rfl)
      rw [hF64]
      unfold decB
      by_cases h1 : ∀ c ∈ nN m, okc c
      · rw [bad_none _ _ (hok.1 h1)]
        by_cases h2 : (nN m).length % 4 = 1
        · exact .inr ⟨if_neg (fun hx => hx.2.1 h2), by simp [h2]⟩
        · by_cases h3 : (une ((nN m).map v6)).2 = 0
          · exact .inl ⟨_, if_pos ⟨h1, h2, h3⟩, by simp [h2, h3]⟩
          · exact .inr ⟨if_neg (fun hx => h3 hx.2.2), by simp [h2, h3]⟩
      · refine .inr ⟨if_neg (fun hx => h1 hx.1), ?_⟩
        cases hb : bad al64 ((nN m).map mapPl) 0 with
        | none => exact absurd (hok.2 (good _ _ hb)) h1
        | some i => simp
    have go {r : ByteArray × Bool} (hr : Ev (fun k => (digest_FromBase64.f k T).bind fun bt204 => (if bt204.2.1 = 0 then (some (strOfNums bt204.1, ((wrap64 ((wrap64 (Int.tdiv (wrap64 ((T.size : Int) + 3)) 4)) * 4)) == (s.size : Int)))) else (some (strOfNums bt204.1, false)))) r) :
        Ev (fun k => if ((s.size : Int) % 4) = 0 then ((strings_ContainsAny.f s (⟨#[45, 95]⟩ : ByteArray)).bind fun t199 => (client_common.j0 k s t199)) else (client_common.j0 k s true)) r := by
      refine Ev.pos (by omega) (Ev.bind (a := false) (Ev.eq (Ev.congr (f := fun _ => some (hasDU s.data.toList)) (fun _ => if_pos ⟨by omega, rfl⟩) (Ev.now _)) hd') (Ev.step (fun k => ?_) hr))
      simp only [client_common.j0]
      rw [if_neg (by decide)]
      have e1 : strings_TrimSuffix.f s (⟨#[61]⟩ : ByteArray) = some ⟨(Lib.trimSuffix s.data.toList [61]).toArray⟩ := if_pos (by omega)
      have hlt : (Lib.trimSuffix s.data.toList [61]).length ≤ s.size := by
        unfold Lib.trimSuffix; split
        · rw [List.length_take]; omega
        · omega
      have e2 : strings_TrimSuffix.f ⟨(Lib.trimSuffix s.data.toList [61]).toArray⟩ (⟨#[61]⟩ : ByteArray) = some ⟨m.toArray⟩ := by
        unfold strings_TrimSuffix.f
        rw [if_pos (by show (Lib.trimSuffix s.data.toList [61]).toArray.size ≤ _; simp; omega)]
        exact congrArg (fun l => some (⟨List.toArray l⟩ : ByteArray)) (trim_bare h)
      have e3 : strings_ReplaceAll.f ⟨m.toArray⟩ (⟨#[43]⟩ : ByteArray) (⟨#[45]⟩ : ByteArray) = some ⟨(repL 43 45 m).toArray⟩ := if_pos ⟨rfl, rfl, by show m.toArray.size < _; simp; omega⟩
      have e4 : strings_ReplaceAll.f ⟨(repL 43 45 m).toArray⟩ (⟨#[47]⟩ : ByteArray) (⟨#[95]⟩ : ByteArray) = some T := if_pos ⟨rfl, rfl, by show (repL 43 45 m).toArray.size < _; simp [repL]; omega⟩
      rw [e1, Option.bind_some, e2, Option.bind_some, e3, Option.bind_some, e4, Option.bind_some]
    rcases key with ⟨pp, k1, k2⟩ | ⟨k1, k2⟩
    · rw [k2] at hF
      refine ⟨strOfNums (toI pp), true, go (Ev.bind hF (Ev.pos rfl (Ev.eq (Ev.now _) ?_))), ?_, ?_⟩
      · have h1 : m.length % 4 ≠ 1 := by
          intro e
          unfold decB at k1
          rw [if_neg (fun hx => hx.2.1 (by rw [hnl]; exact e))] at k1
          cases k1
        refine Prod.ext rfl ?_
        show ((wrap64 ((wrap64 (Int.tdiv (wrap64 ((T.size : Int) + 3)) 4)) * 4)) == (s.size : Int)) = true
        rw [beq_iff_eq, hTs, w64 (x := (m.length : Int) + 3) (by omega) (by omega), show (m.length : Int) + 3 = ((m.length + 3 : Nat) : Int) by omega, show Int.tdiv ((m.length + 3 : Nat) : Int) 4 = (((m.length + 3) / 4 : Nat) : Int) from rfl, w64 (x := (((m.length + 3) / 4 : Nat) : Int)) (by omega) (by omega), w64 (by omega) (by omega)]
        omega
      · rw [k1]; exact ⟨rfl, rfl⟩
      · have := from64_len ((nN m).map mapPl)
        rw [k2] at this
        rw [strN_size]; exact this
    · refine ⟨_, false, go (Ev.bind hF (Ev.neg (fun e => k2 (by exact Int.ofNat.inj e)) (Ev.now _))), ?_, ?_⟩
      · rw [k1]; rfl
      · have := from64_len ((nN m).map mapPl)
        show (strOfNums (toI (from64 ((nN m).map mapPl)).1)).size ≤ _
        rw [strN_size]; exact this
end Go.Proofs.YtmimipgmhgalaaaGreatDoor.Sha
end
section
namespace Go.Proofs.YtmimipgmhgalaaaGreatDoor.Pure
open Go.RowKit Go.Proofs.YtmimipgmhgalaaaGreatDoorW.PrintWords Go.Proofs.YtmimipgmhgalaaaGreatDoor.Plain Go.Proofs.YtmimipgmhgalaaaGreatDoor.Spec
set_option linter.unusedSimpArgs false
set_option linter.unusedVariables false
def n8 (l : List UInt8) : List Int := l.map fun b => (b.toNat : Int)
theorem n8_len (l : List UInt8) : (n8 l).length = l.length := List.length_map ..
theorem n8_snoc (l : List UInt8) (c : UInt8) : n8 l ++ [(c.toNat : Int)] = n8 (l ++ [c]) := by simp [n8]
theorem str_n8 (l : List UInt8) : strOfNums (n8 l) = bs l := Lib.Lz.strOfNums_map l
theorem bt_get (s : ByteArray) (i : Nat) (h : i < s.size) : bt s (i : Int) = (s[i].toNat : Int) := by
  unfold bt
  rw [dif_pos (by simpa using h)]
  rfl
theorem u8_of (n : Int) (h0 : 0 ≤ n) (h1 : n < 256) : ((UInt8.ofNat n.toNat).toNat : Int) = n := by
  rw [UInt8.toNat_ofNat']; omega
theorem u8_lit (c : UInt8) (n : Nat) (h : c.toNat = n) : c = UInt8.ofNat n := by rw [← h, UInt8.ofNat_toNat]
end Go.Proofs.YtmimipgmhgalaaaGreatDoor.Pure
end
section
namespace Go.Proofs.YtmimipgmhgalaaaGreatDoor.Pure
open Go.RowKit Go.Proofs.YtmimipgmhgalaaaGreatDoorW.PrintWords Go.Proofs.YtmimipgmhgalaaaGreatDoor.Plain Go.Proofs.YtmimipgmhgalaaaGreatDoor.Spec Go.Proofs.YtmimipgmhgalaaaGreatDoor.PAll
set_option linter.unusedSimpArgs false
set_option linter.unusedVariables false
theorem digit_ev (c : UInt8) : Ev (fun k => wicketref03_digit.f k (c.toNat : Int)) (hexI c) := by
  have hc := c.toNat_lt
  unfold wicketref03_digit.f hexI
  by_cases h1 : 48 ≤ (c.toNat : Int) ∧ (c.toNat : Int) ≤ 57
  · rw [if_pos h1]
    refine Ev.pos (by omega) (Ev.step (f := fun _ => some ((c.toNat : Int) - 48)) (fun k => ?_) (Ev.now _))
    simp only [wicketref03_digit.j0]
    rw [if_pos (by simpa using h1.2), Int.emod_eq_of_lt (by omega) (by omega)]
  · rw [if_neg h1]
    have hj : Ev (fun k => wicketref03_digit.j0 k (c.toNat : Int) false) (if 97 ≤ (c.toNat : Int) ∧ (c.toNat : Int) ≤ 102 then (c.toNat : Int) - 97 + 10 else if 65 ≤ (c.toNat : Int) ∧ (c.toNat : Int) ≤ 70 then (c.toNat : Int) - 65 + 10 else -1) := by
      have hj1 : ∀ b : Bool, b = decide (97 ≤ (c.toNat : Int) ∧ (c.toNat : Int) ≤ 102) → Ev (fun k => wicketref03_digit.j1 k (c.toNat : Int) b) (if 97 ≤ (c.toNat : Int) ∧ (c.toNat : Int) ≤ 102 then (c.toNat : Int) - 97 + 10 else if 65 ≤ (c.toNat : Int) ∧ (c.toNat : Int) ≤ 70 then (c.toNat : Int) - 65 + 10 else -1) := by
        intro b hb
        refine Ev.step (f := fun _ => some _) (fun k => ?_) (Ev.now _)
        simp only [wicketref03_digit.j1]
        by_cases h2 : 97 ≤ (c.toNat : Int) ∧ (c.toNat : Int) ≤ 102
        · rw [if_pos (by rw [hb]; simpa using h2), if_pos h2, Int.emod_eq_of_lt (by omega) (by omega)]
        · rw [if_neg (by rw [hb]; simpa using h2), if_neg h2]
          by_cases h3 : 65 ≤ (c.toNat : Int) ∧ (c.toNat : Int) ≤ 70
          · rw [if_pos h3, if_pos h3.1, if_pos h3.2, Int.emod_eq_of_lt (by omega) (by omega)]
          · rw [if_neg h3]
            by_cases h4 : (c.toNat : Int) ≥ 65
            · rw [if_pos h4, if_neg (by omega)]
            · rw [if_neg h4]
      by_cases h5 : (c.toNat : Int) ≥ 97
      · refine Ev.step (fun k => ?_) (hj1 (decide ((c.toNat : Int) ≤ 102)) (by rw [decide_eq_decide]; omega))
        simp only [wicketref03_digit.j0]
        rw [if_neg (by simp), if_pos h5]
      · refine Ev.step (fun k => ?_) (hj1 false (by rw [eq_comm, decide_eq_false_iff_not]; omega))
        simp only [wicketref03_digit.j0]
        rw [if_neg (by simp), if_neg h5]
    by_cases h6 : (c.toNat : Int) ≥ 48
    · refine Ev.pos h6 ?_
      rw [decide_eq_false (by omega)]
      exact hj
    · exact Ev.neg h6 hj
def resU (r : List UInt8 × Int × Int) : ByteArray × Int × Int := (bs r.1, r.2.1, r.2.2)
theorem refun_loop (s : ByteArray) (hs : s.size ≤ 140737488351232) : ∀ (m i : Nat) (acc : List UInt8), s.size ≤ i + m → i ≤ s.size → acc.length ≤ i →
    Ev (fun k => wicketref03_Unescape.l0 k s (n8 acc) (i : Int)) (resU (unescL (s.data.toList.drop i) i acc)) := by
  intro m
  induction m with
  | zero =>
    intro i acc hi hi2 ha
    rw [List.drop_eq_nil_of_le (by rw [data_len]; omega)]
    refine Ev.step (f := fun _ => some (bs acc, 0, 0)) (fun k => ?_) (Ev.eq (Ev.now _) rfl)
    simp only [wicketref03_Unescape.l0]
    simp (disch := omega) only [↓if_pos, ↓if_neg, str_n8]
  | succ m ih =>
    intro i acc hi hi2 ha
    by_cases hlt : i < s.size
    · have hbt := bt_get s i hlt
      have hal := n8_len acc
      rw [drop_at s i hlt]
      generalize hc : s[i] = c at *
      have hl0 : Ev (fun k => wicketref03_Unescape.j1 k s (n8 acc) (i : Int) (c.toNat : Int) (decide ((c.toNat : Int) < 33 ∨ 126 < (c.toNat : Int)))) (resU (unescL (c :: s.data.toList.drop (i + 1)) i acc)) → Ev (fun k => wicketref03_Unescape.l0 k s (n8 acc) (i : Int)) (resU (unescL (c :: s.data.toList.drop (i + 1)) i acc)) := by
        refine fun h => Ev.step (fun k => ?_) h
        simp only [wicketref03_Unescape.l0]
        rw [if_pos (by omega), if_pos (by omega), hbt]
        by_cases h1 : (c.toNat : Int) < 33
        · rw [if_pos h1, decide_eq_true (Or.inl h1)]
        · rw [if_neg h1]
          congr 1
          rw [decide_eq_decide]
          omega
      refine hl0 ?_
      clear hl0
      by_cases hb : (c.toNat : Int) < 33 ∨ 126 < (c.toNat : Int)
      · rw [decide_eq_true hb, unescL_bad _ _ _ _ hb]
        refine Ev.step (f := fun _ => some (⟨#[]⟩, 31, (i : Int))) (fun k => ?_) (Ev.eq (Ev.now _) rfl)
        simp only [wicketref03_Unescape.j1, if_true]
      · rw [decide_eq_false hb]
        by_cases h1 : c = 43
        · rw [unescL_plus _ _ _ _ h1]
          have h1' : (c.toNat : Int) = 43 := by rw [h1]; rfl
          refine Ev.step (fun k => ?_) (ih (i + 1) (acc ++ [32]) (by omega) (by omega) (by rw [List.length_append, List.length_singleton]; omega))
          simp only [wicketref03_Unescape.j1]
          simp (disch := omega) only [↓if_pos, ↓if_neg, Bool.false_eq_true, if_false, w64, ← n8_snoc]
          rfl
        · have h1' : ¬ (c.toNat : Int) = 43 := fun e => h1 (u8_lit c 43 (by omega))
          by_cases h2 : c = 37
          · have h2' : (c.toNat : Int) = 37 := by rw [h2]; rfl
            have hbad : ∀ k, wicketref03_Unescape.j2 (k + 1) s (n8 acc) (i : Int) true = some (⟨#[]⟩, 30, (i : Int)) := fun k => by
              simp only [wicketref03_Unescape.j2, if_true]
            have hbadE : Ev (fun k => wicketref03_Unescape.j2 k s (n8 acc) (i : Int) true) ((⟨#[]⟩ : ByteArray), 30, (i : Int)) := Ev.step (f := fun _ => some _) hbad (Ev.now _)
            by_cases h3 : i + 2 < s.size
            · have hd := digit_ev s[i + 1]
              have he := digit_ev s[i + 2]
              have r1 := hexI_range s[i + 1]
              have r2 := hexI_range s[i + 2]
              have hb1 : bt s ((i : Int) + 1) = (s[i + 1].toNat : Int) := bt_get s (i + 1) (by omega)
              have hb2 : bt s ((i : Int) + 2) = (s[i + 2].toNat : Int) := bt_get s (i + 2) (by omega)
              rw [drop_at s (i + 1) (by omega), drop_at s (i + 2) (by omega)]
              have ih3 := ih (i + 3)
              generalize s[i + 1] = d at *
              generalize s[i + 2] = e at *
              refine Ev.step (f := fun k => (wicketref03_digit.f k (d.toNat : Int)).bind fun t155 => (if t155 < 0 then (wicketref03_Unescape.j2 k s (n8 acc) (i : Int) true) else (wicketref03_digit.f k (e.toNat : Int)).bind fun t156 => (wicketref03_Unescape.j2 k s (n8 acc) (i : Int) (decide (t156 < 0))))) (fun k => ?_) ?_
              · simp only [wicketref03_Unescape.j1]
                simp (disch := omega) only [↓if_pos, ↓if_neg, Bool.false_eq_true, if_false, w64, hb1, hb2]
              · refine Ev.bind hd ?_
                by_cases h4 : hexI d < 0
                · rw [unescL_nohex _ _ _ _ _ _ h2 (.inl h4)]
                  exact Ev.pos h4 hbadE
                · refine Ev.neg h4 (Ev.bind he ?_)
                  by_cases h5 : hexI e < 0
                  · rw [unescL_nohex _ _ _ _ _ _ h2 (.inr h5), decide_eq_true h5]
                    exact hbadE
                  · rw [unescL_hex c d e _ _ _ h2 (by omega), decide_eq_false h5]
                    have hv := u8_of (16 * hexI d + hexI e) (by omega) (by omega)
                    refine Ev.step (f := fun k => (wicketref03_digit.f k (d.toNat : Int)).bind fun t157 => (wicketref03_digit.f k (e.toNat : Int)).bind fun t158 => (wicketref03_Unescape.l0 k s (n8 acc ++ [(wrap64 ((wrap64 (16 * t157)) + t158)) % 256]) ((i + 3 : Nat) : Int))) (fun k => ?_) ?_
                    · simp only [wicketref03_Unescape.j2]
                      simp (disch := omega) only [↓if_pos, ↓if_neg, Bool.false_eq_true, if_false, w64, hb1, hb2]
                      rw [show (i : Int) + 2 + 1 = ((i + 3 : Nat) : Int) by omega]
                    · refine Ev.bind hd (Ev.bind he ?_)
                      rw [w64 (x := 16 * hexI d) (by omega) (by omega), w64 (by omega) (by omega), Int.emod_eq_of_lt (by omega) (by omega)]
                      have key := ih3 (acc ++ [UInt8.ofNat (16 * hexI d + hexI e).toNat]) (by omega) (by omega) (by rw [List.length_append, List.length_singleton]; omega)
                      rw [← n8_snoc, hv] at key
                      exact key
            · rw [unescL_short _ _ _ _ h2 (by rw [List.length_drop, data_len]; omega)]
              refine Ev.step (fun k => ?_) hbadE
              simp only [wicketref03_Unescape.j1]
              simp (disch := omega) only [↓if_pos, ↓if_neg, Bool.false_eq_true, if_false, w64]
          · have h2' : ¬ (c.toNat : Int) = 37 := fun e => h2 (u8_lit c 37 (by omega))
            rw [unescL_keep _ _ _ _ hb h1 h2]
            refine Ev.step (fun k => ?_) (ih (i + 1) (acc ++ [c]) (by omega) (by omega) (by rw [List.length_append, List.length_singleton]; omega))
            simp only [wicketref03_Unescape.j1]
            simp (disch := omega) only [↓if_pos, ↓if_neg, Bool.false_eq_true, if_false, w64, ← n8_snoc]
            rfl
    · have he : i = s.size := by omega
      rw [List.drop_eq_nil_of_le (by rw [data_len]; omega)]
      refine Ev.step (f := fun _ => some (bs acc, 0, 0)) (fun k => ?_) (Ev.eq (Ev.now _) rfl)
      simp only [wicketref03_Unescape.l0]
      simp (disch := omega) only [↓if_pos, ↓if_neg, str_n8]
theorem refun_ev (s : ByteArray) (hs : s.size ≤ 140737488351232) : Ev (fun k => wicketref03_Unescape.f k s) (resU (unescL s.data.toList 0 [])) := by
  unfold wicketref03_Unescape.f
  exact refun_loop s hs s.size 0 [] (by omega) (by omega) (by simp)
end Go.Proofs.YtmimipgmhgalaaaGreatDoor.Pure
end
section
namespace Go.Proofs.YtmimipgmhgalaaaGreatDoor.Pure
open Go.RowKit Go.Proofs.YtmimipgmhgalaaaGreatDoorW.PrintWords Go.Proofs.YtmimipgmhgalaaaGreatDoor.Plain Go.Proofs.YtmimipgmhgalaaaGreatDoor.PAll Go.Proofs.YtmimipgmhgalaaaGreatDoor.Spec Go.Proofs.YtmimipgmhgalaaaGreatDoor.Sha
set_option linter.unusedSimpArgs false
set_option linter.unusedVariables false
abbrev E3 : ByteArray × ByteArray × Int := ((⟨#[]⟩ : ByteArray), (⟨#[]⟩ : ByteArray), 113)
def saidP (l : List UInt8) : ByteArray × ByteArray × Int :=
  if (cutL 58 l).2.2 = true ∧ (unescL (cutL 58 l).1 0 []).2.1 = 0 ∧ (unescL (cutL 58 l).2.1 0 []).2.1 = 0 then (bs (unescL (cutL 58 l).1 0 []).1, bs (unescL (cutL 58 l).2.1 0 []).1, 0) else E3
theorem cutL_len (c : UInt8) : ∀ l : List UInt8, (cutL c l).1.length ≤ l.length ∧ (cutL c l).2.1.length ≤ l.length
  | [] => by simp [cutL]
  | x :: r => by
    have := cutL_len c r
    unfold cutL
    split
    · simp
    · simp; omega
theorem cutL_spec (c : UInt8) : ∀ l : List UInt8, ((cutL c l).2.2 = true → l = (cutL c l).1 ++ c :: (cutL c l).2.1) ∧ ((cutL c l).2.2 = false → (cutL c l).1 = l)
  | [] => by simp [cutL]
  | x :: r => by
    have ih := cutL_spec c r
    unfold cutL
    by_cases hx : x = c
    · rw [if_pos hx]; exact ⟨fun _ => by rw [hx]; rfl, fun h => by cases h⟩
    · rw [if_neg hx]
      exact ⟨fun h => congrArg (List.cons x) (ih.1 h), fun h => congrArg (List.cons x) (ih.2 h)⟩
theorem tailP (x : ByteArray) (ok : Bool) (hx : x.size ≤ 65536) : ((strings_Cut.f x (⟨#[58]⟩ : ByteArray)).bind fun bt213 => ((urlform_Unescape.f bt213.1).bind fun bt216 => ((urlform_Unescape.f bt213.2.1).bind fun bt219 => (if ok = true then (if bt213.2.2 = true then (if bt216.2.1 = 0 then (if bt219.2.1 = 0 then (some (bt216.1, bt219.1, (0 : Int))) else (some ((⟨#[]⟩ : ByteArray), (⟨#[]⟩ : ByteArray), 113))) else (some ((⟨#[]⟩ : ByteArray), (⟨#[]⟩ : ByteArray), 113))) else (some ((⟨#[]⟩ : ByteArray), (⟨#[]⟩ : ByteArray), 113))) else (some ((⟨#[]⟩ : ByteArray), (⟨#[]⟩ : ByteArray), 113)))))) = some (if ok = true then saidP x.data.toList else E3) := by
  have hl : x.data.toList.length = x.size := by simp
  have h1 := cutL_len 58 x.data.toList
  have s1 : (bs (cutL 58 x.data.toList).1).size ≤ 65536 := by rw [bs_size]; omega
  have s2 : (bs (cutL 58 x.data.toList).2.1).size ≤ 65536 := by rw [bs_size]; omega
  rw [cut_eq x 58 (by omega), Option.bind_some]
  dsimp only
  rw [unesc_eq _ (by omega), Option.bind_some, unesc_eq _ (by omega), Option.bind_some, bs_data, bs_data]
  unfold saidP
  by_cases h0 : ok = true
  · rw [if_pos h0, if_pos h0]
    by_cases c1 : (cutL 58 x.data.toList).2.2 = true
    · rw [if_pos c1]
      by_cases c2 : (unescL (cutL 58 x.data.toList).1 0 []).2.1 = 0
      · rw [if_pos c2]
        by_cases c3 : (unescL (cutL 58 x.data.toList).2.1 0 []).2.1 = 0
        · rw [if_pos c3, if_pos ⟨c1, c2, c3⟩]
        · rw [if_neg c3, if_neg (fun h => c3 h.2.2)]
      · rw [if_neg c2, if_neg (fun h => c2 h.2.1)]
    · rw [if_neg c1, if_neg (fun h => c1 h.1)]
  · rw [if_neg h0, if_neg h0]
theorem bt_at' {s : ByteArray} {q e : List UInt8} {y : UInt8} (h : s.data.toList = q ++ y :: e) : (q.length : Int) < (s.size : Int) ∧ bt s (q.length : Int) = (y.toNat : Int) := by
  have h1 : s.data.toList.length = s.size := by simp
  have h2 : q.length < s.size := by rw [← h1, h, List.length_append, List.length_cons]; omega
  refine ⟨by omega, ?_⟩
  rw [bt_sN s _ h2, nN_sN, h]
  unfold nN
  rw [List.map_append, List.getD_eq_getElem?_getD, List.getElem?_append_right (by simp)]
  simp
theorem ba_ext {a b : ByteArray} (h : a.data.toList = b.data.toList) : a = b := toList_inj (by rw [ByteArray.toList_eq, ByteArray.toList_eq, h])
theorem take_of {l a b : List UInt8} {c : UInt8} (h : l = a ++ c :: b) : l.take a.length = a := by rw [h]; exact List.take_left' rfl
theorem drop_of {l a b : List UInt8} {c : UInt8} (h : l = a ++ c :: b) : l.drop (a.length + 1) = b := by
  rw [h, ← List.drop_drop, List.drop_left' rfl]; rfl
theorem l2r_ev {r : ByteArray × ByteArray × Int} (x : ByteArray) (hx : x.size ≤ 65536) : ∀ (d q : List UInt8), x.data.toList = q ++ d → Ev (fun k => wicketref11_Basic.j7 k x ((q.length + (cutL 58 d).1.length : Nat) : Int)) r → Ev (fun k => wicketref11_Basic.l2 k x (q.length : Int)) r
  | [], q, h, hr => by
    have h1 : x.data.toList.length = x.size := by simp
    rw [h, List.append_nil] at h1
    refine Ev.step (fun k => ?_) hr
    simp only [wicketref11_Basic.l2]
    rw [if_neg (by omega)]
    rfl
  | y :: d, q, h, hr => by
    obtain ⟨h1, h2⟩ := bt_at' h
    by_cases hy : y = 58
    · refine Ev.step (fun k => ?_) hr
      simp only [wicketref11_Basic.l2]
      rw [if_pos h1, if_pos (by omega), h2, if_pos (by rw [hy]; rfl), cutL, if_pos hy]
      rfl
    · have ih := l2r_ev x hx d (q ++ [y]) (by rw [h, List.append_assoc]; rfl) (r := r) (by
        rw [cutL, if_neg hy] at hr
        refine Ev.congr (fun k => ?_) hr
        congr 1
        rw [List.length_append]
        simp only [List.length_cons, List.length_nil]
        omega)
      refine Ev.step (fun k => ?_) ih
      simp only [wicketref11_Basic.l2]
      rw [if_pos h1, if_pos (by omega), h2, if_neg (fun e => hy (UInt8.toNat_inj.1 (by exact Int.ofNat.inj e))), w64 (by omega) (by omega), List.length_append]
      rfl
theorem j5_yes (x : ByteArray) (hx : x.size ≤ 65536) : Ev (fun k => wicketref11_Basic.j5 k x (!true)) (saidP x.data.toList) := by
  have hl : x.data.toList.length = x.size := by simp
  have h1 := cutL_len 58 x.data.toList
  have hsp := cutL_spec 58 x.data.toList
  refine Ev.step (f := fun k => wicketref11_Basic.l2 k x (([] : List UInt8).length : Int)) (fun k => by simp only [wicketref11_Basic.j5, Bool.not_true, Bool.false_eq_true, if_false]; rfl) (l2r_ev x hx x.data.toList [] rfl ?_)
  rw [List.length_nil, Nat.zero_add]
  unfold saidP
  by_cases c1 : (cutL 58 x.data.toList).2.2 = true
  · have hs := hsp.1 c1
    have hn : x.size = (cutL 58 x.data.toList).1.length + ((cutL 58 x.data.toList).2.1.length + 1) := by
      have := congrArg List.length hs
      rw [hl, List.length_append, List.length_cons] at this
      exact this
    have e1 : x.extract 0 ((((cutL 58 x.data.toList).1.length : Nat) : Int)).toNat = bs (cutL 58 x.data.toList).1 := by
      apply ba_ext
      rw [Lib.extract_data, bs_data, Int.toNat_natCast, List.drop_zero, Nat.sub_zero]
      exact take_of hs
    have e2 : x.extract (((((cutL 58 x.data.toList).1.length + 1 : Nat)) : Int)).toNat x.size = bs (cutL 58 x.data.toList).2.1 := by
      apply ba_ext
      rw [Lib.extract_data, bs_data, Int.toNat_natCast, drop_of hs, List.take_of_length_le (by omega)]
    have u1 := refun_ev (bs (cutL 58 x.data.toList).1) (by rw [bs_size]; omega)
    have u2 := refun_ev (bs (cutL 58 x.data.toList).2.1) (by rw [bs_size]; omega)
    rw [bs_data] at u1 u2
    refine Ev.step (fun k => ?_) (f := fun k => (wicketref03_Unescape.f k (bs (cutL 58 x.data.toList).1)).bind fun bt468 => (wicketref03_Unescape.f k (bs (cutL 58 x.data.toList).2.1)).bind fun bt471 => (if bt468.2.1 = 0 then (if bt471.2.1 = 0 then (some (bt468.1, bt471.1, 0)) else (some ((⟨#[]⟩ : ByteArray), (⟨#[]⟩ : ByteArray), 113))) else (some ((⟨#[]⟩ : ByteArray), (⟨#[]⟩ : ByteArray), 113)))) ?_
    · simp only [wicketref11_Basic.j7]
      rw [if_neg (by omega), if_pos (by omega), if_pos (by omega), e1, w64 (by omega) (by omega), show ((((cutL 58 x.data.toList).1.length : Nat) : Int) + 1) = (((cutL 58 x.data.toList).1.length + 1 : Nat) : Int) from rfl]
      congr 1
      funext bt468
      rw [if_pos (by omega), if_pos (by omega), e2]
    · refine Ev.bind u1 (Ev.bind u2 ?_)
      by_cases c2 : (unescL (cutL 58 x.data.toList).1 0 []).2.1 = 0
      · refine Ev.pos c2 ?_
        by_cases c3 : (unescL (cutL 58 x.data.toList).2.1 0 []).2.1 = 0
        · exact Ev.eq (Ev.pos c3 (Ev.now _)) (if_pos ⟨c1, c2, c3⟩).symm
        · exact Ev.eq (Ev.neg c3 (Ev.now _)) (if_neg (fun h => c3 h.2.2)).symm
      · exact Ev.eq (Ev.neg c2 (Ev.now _)) (if_neg (fun h => c2 h.2.1)).symm
  · have hs := hsp.2 (by simpa using c1)
    rw [if_neg (fun h => c1 h.1), hs, hl]
    refine Ev.step (fun k => ?_) (Ev.now _)
    simp only [wicketref11_Basic.j7, if_true]
theorem bt_drop {s : ByteArray} {d : List UInt8} {y : UInt8} {i : Nat} (h : s.data.toList.drop i = y :: d) : (i : Int) < (s.size : Int) ∧ bt s (i : Int) = (y.toNat : Int) ∧ s.data.toList.drop (i + 1) = d := by
  have h1 : s.data.toList.length = s.size := by simp
  have hi : i < s.data.toList.length := by
    apply Classical.byContradiction
    intro hn
    rw [List.drop_eq_nil_of_le (by omega)] at h
    cases h
  have h2 := List.drop_eq_getElem_cons hi
  rw [h] at h2
  injection h2 with ha hb
  have h3 : s.data.toList = s.data.toList.take i ++ y :: d := by rw [← h]; exact (List.take_append_drop i _).symm
  have h4 := bt_at' h3
  rw [List.length_take, Nat.min_eq_left (by omega)] at h4
  exact ⟨h4.1, h4.2, hb.symm⟩
theorem fold_low (c y : UInt8) (hy : 97 ≤ y.toNat ∧ y.toNat ≤ 122) : Lib.foldEq c y = true ↔ if 65 ≤ c.toNat ∧ c.toNat ≤ 90 then c.toNat + 32 = y.toNat else c.toNat = y.toNat := by
  unfold Lib.foldEq
  rw [decide_eq_true_iff]
  split <;> omega
abbrev WB : ByteArray := ⟨#[98, 97, 115, 105, 99]⟩
theorem step_i {r : ByteArray × ByteArray × Int} (h : ByteArray) (i : Nat) (hi : i < 5) (c y : UInt8) (hc : (i : Int) < (h.size : Int) ∧ bt h (i : Int) = (c.toNat : Int)) (hb : bt WB (i : Int) = (y.toNat : Int)) (hy : 97 ≤ y.toNat ∧ y.toNat ≤ 122)
    (hn : Lib.foldEq c y = true → Ev (fun k => wicketref11_Basic.l0 k h WB ((i + 1 : Nat) : Int)) r) (he : Lib.foldEq c y = false → r = E3) : Ev (fun k => wicketref11_Basic.l0 k h WB (i : Int)) r := by
  have hlt := c.toNat_lt
  have hf := fold_low c y hy
  have hW : WB.size = 5 := rfl
  by_cases hu : 65 ≤ c.toNat ∧ c.toNat ≤ 90
  · rw [if_pos hu] at hf
    have e1 : ((((c.toNat : Int) - 65) % 256) + 97) % 256 = ((c.toNat + 32 : Nat) : Int) := by omega
    refine Ev.step (f := fun k => wicketref11_Basic.j2 k h WB (i : Int) (c.toNat : Int) true) (fun k => ?_) ?_
    · simp only [wicketref11_Basic.l0]
      rw [if_pos (by omega), if_pos (by omega), if_pos hc.1, hc.2, if_pos (by omega), decide_eq_true (show (c.toNat : Int) ≤ 90 by omega)]
    by_cases hx : Lib.foldEq c y = true
    · refine Ev.step (fun k => ?_) (hn hx)
      simp only [wicketref11_Basic.j2, if_true]
      rw [if_pos (by omega), if_pos (by rw [hW]; omega), hb, e1, if_pos (by have := hf.1 hx; omega), w64 (by omega) (by omega)]
      rfl
    · rw [he (by simpa using hx)]
      refine Ev.step (fun k => ?_) (Ev.now _)
      simp only [wicketref11_Basic.j2, if_true]
      rw [if_pos (by omega), if_pos (by rw [hW]; omega), hb, e1, if_neg (fun e => hx (hf.2 (by omega)))]
  · rw [if_neg hu] at hf
    refine Ev.step (f := fun k => wicketref11_Basic.j2 k h WB (i : Int) (c.toNat : Int) false) (fun k => ?_) ?_
    · simp only [wicketref11_Basic.l0]
      rw [if_pos (by omega), if_pos (by omega), if_pos hc.1, hc.2]
      by_cases h6 : (c.toNat : Int) ≥ 65
      · rw [if_pos h6, decide_eq_false (show ¬ (c.toNat : Int) ≤ 90 by omega)]
      · rw [if_neg h6]
    by_cases hx : Lib.foldEq c y = true
    · refine Ev.step (fun k => ?_) (hn hx)
      simp only [wicketref11_Basic.j2, Bool.false_eq_true, if_false]
      rw [if_pos (by omega), if_pos (by rw [hW]; omega), hb, if_pos (by have := hf.1 hx; omega), w64 (by omega) (by omega)]
      rfl
    · rw [he (by simpa using hx)]
      refine Ev.step (fun k => ?_) (Ev.now _)
      simp only [wicketref11_Basic.j2, Bool.false_eq_true, if_false]
      rw [if_pos (by omega), if_pos (by rw [hW]; omega), hb, if_neg (fun e => hx (hf.2 (by omega)))]
theorem l1r_ev {r : ByteArray × ByteArray × Int} (h : ByteArray) (hs : h.size ≤ 65536) : ∀ (d : List UInt8) (i : Nat), h.data.toList.drop i = d → i ≤ h.size → (∀ j, i ≤ j → j ≤ h.size → h.data.toList.drop j = d.dropWhile (· == 32) → (d.head? = some 32 → i < j) → (d.head? ≠ some 32 → i = j) → Ev (fun k => wicketref11_Basic.j4 k h (j : Int)) r) → Ev (fun k => wicketref11_Basic.l1 k h (i : Int)) r
  | [], i, hd, hi, hr => by
    have h1 : h.data.toList.length = h.size := by simp
    have h2 : h.size ≤ i := by
      have := congrArg List.length hd
      rw [List.length_drop, List.length_nil] at this
      omega
    refine Ev.step (fun k => ?_) (hr i (Nat.le_refl _) hi hd (fun e => by cases e) (fun _ => rfl))
    simp only [wicketref11_Basic.l1]
    rw [if_neg (by omega)]
  | y :: d, i, hd, hi, hr => by
    obtain ⟨h1, h2, h3⟩ := bt_drop hd
    by_cases hy : y = 32
    · subst hy
      have ih := l1r_ev (r := r) h hs d (i + 1) h3 (by omega) (fun j a b c e f => hr j (by omega) b (by rw [c]; rfl) (fun _ => by omega) (fun g => absurd rfl g))
      refine Ev.step (fun k => ?_) ih
      simp only [wicketref11_Basic.l1]
      rw [if_pos h1, if_pos (by omega), h2, if_pos (by decide), w64 (by omega) (by omega)]
      rfl
    · have hy' : (y == 32) = false := by simpa using hy
      refine Ev.step (fun k => ?_) (hr i (Nat.le_refl _) hi (by rw [hd, List.dropWhile_cons, hy']; rfl) (fun e => absurd (Option.some.inj e) hy) (fun _ => rfl))
      simp only [wicketref11_Basic.l1]
      rw [if_pos h1, if_pos (by omega), h2, if_neg (fun e => hy (UInt8.toNat_inj.1 (by exact Int.ofNat.inj e)))]
theorem dec_both (t : ByteArray) (ht : t.size ≤ 65536) : ∃ x ok y ok', Ev (fun k => client_common.f k t) (x, ok) ∧ x.size ≤ 65536 ∧ Ev (fun k => wicketref11_decoded.f k t) (y, ok') ∧ ok = ok' ∧ (ok = true → x = y) := by
  by_cases h4 : t.size % 4 = 0
  · obtain ⟨m, p, hb⟩ := bare_of t.data.toList
    obtain ⟨x, ok, h1, h2, h3⟩ := common_ev ht hb h4
    obtain ⟨y, ok', g1, g2⟩ := decoded_ev ht hb h4
    refine ⟨x, ok, y, ok', h1, h3, g1, ?_⟩
    cases ho : decB (nN m) with
    | none => rw [ho] at h2 g2; exact ⟨h2.trans g2.symm, fun e => absurd (e.symm.trans h2) (by decide)⟩
    | some q => rw [ho] at h2 g2; exact ⟨h2.1.trans g2.1.symm, fun _ => h2.2.trans g2.2.symm⟩
  · refine ⟨⟨#[]⟩, false, ⟨#[]⟩, false, ?_, by decide, ?_, rfl, fun _ => rfl⟩
    · unfold client_common.f
      exact Ev.neg (by omega) (Ev.step (f := fun _ => some ((⟨#[]⟩ : ByteArray), false)) (fun k => by simp only [client_common.j0, if_true]) (Ev.now _))
    · unfold wicketref11_decoded.f
      exact Ev.neg (by omega) (Ev.now _)
theorem fold_ascii {c y : UInt8} (h : Lib.foldEq c y = true) (hy : y.toNat < 128) : c.toNat < 128 := by
  unfold Lib.foldEq at h
  have := of_decide_eq_true h
  omega
theorem saidP_sz (x : ByteArray) (hx : x.size ≤ 65536) : (saidP x.data.toList).1.size ≤ 65536 ∧ (saidP x.data.toList).2.1.size ≤ 65536 := by
  have hl : x.data.toList.length = x.size := by simp
  have h1 := cutL_len 58 x.data.toList
  have u1 := (unescL_place _ (cutL 58 x.data.toList).1 (Nat.le_refl _) 0 []).2.2.2.2
  have u2 := (unescL_place _ (cutL 58 x.data.toList).2.1 (Nat.le_refl _) 0 []).2.2.2.2
  simp only [List.length_nil] at u1 u2
  unfold saidP
  split
  · simp only [bs_size]; omega
  · exact ⟨by decide, by decide⟩
theorem basic_all (h : ByteArray) : ∃ r : ByteArray × ByteArray × Int, ((h.size ≤ 1024 → 6 ≤ h.size → asciiS (h.extract 0 5) = true) → Ev (fun k => client_Basic.f k h) r) ∧ Ev (fun k => wicketref11_Basic.f k h) r ∧ (h.size ≤ 1024 → 6 ≤ h.size → asciiS (h.extract 0 5) = false → r = E3) ∧ r.1.size ≤ 65536 ∧ r.2.1.size ≤ 65536 := by
  have pj0 : Ev (fun k => client_Basic.j0 k h true) E3 := Ev.step (f := fun _ => some E3) (fun k => by simp only [client_Basic.j0, if_true]) (Ev.now _)
  have rj0 : Ev (fun k => wicketref11_Basic.j0 k h WB true) E3 := Ev.step (f := fun _ => some E3) (fun k => by simp only [wicketref11_Basic.j0, if_true]) (Ev.now _)
  unfold client_Basic.f wicketref11_Basic.f
  by_cases h1 : (h.size : Int) > 1024
  · exact ⟨E3, fun _ => Ev.pos h1 pj0, Ev.pos h1 rj0, fun _ _ _ => rfl, by decide, by decide⟩
  by_cases h2 : (h.size : Int) < 6
  · refine ⟨E3, fun _ => Ev.neg h1 (Ev.pos h2 pj0), Ev.neg h1 ?_, fun _ _ _ => rfl, by decide, by decide⟩
    rw [decide_eq_true h2]; exact rj0
  have hl : h.data.toList.length = h.size := by simp
  obtain ⟨c0, l1, e0, g0⟩ : ∃ x r, h.data.toList = x :: r ∧ 5 ≤ r.length := by
    match hh : h.data.toList with
    | [] => rw [hh] at hl; simp at hl; omega
    | x :: r => rw [hh, List.length_cons] at hl; exact ⟨x, r, rfl, by omega⟩
  obtain ⟨c1, l2, rfl, g1⟩ : ∃ x r, l1 = x :: r ∧ 4 ≤ r.length := by
    match l1, g0 with
    | x :: r, g => exact ⟨x, r, rfl, by simpa using g⟩
  obtain ⟨c2, l3, rfl, g2⟩ : ∃ x r, l2 = x :: r ∧ 3 ≤ r.length := by
    match l2, g1 with
    | x :: r, g => exact ⟨x, r, rfl, by simpa using g⟩
  obtain ⟨c3, l4, rfl, g3⟩ : ∃ x r, l3 = x :: r ∧ 2 ≤ r.length := by
    match l3, g2 with
    | x :: r, g => exact ⟨x, r, rfl, by simpa using g⟩
  obtain ⟨c4, l5, rfl, g4⟩ : ∃ x r, l4 = x :: r ∧ 1 ≤ r.length := by
    match l4, g3 with
    | x :: r, g => exact ⟨x, r, rfl, by simpa using g⟩
  obtain ⟨c5, l6, rfl, g5⟩ : ∃ x r, l5 = x :: r ∧ 0 ≤ r.length := by
    match l5, g4 with
    | x :: r, g => exact ⟨x, r, rfl, by omega⟩
  have hx5 : (h.extract 0 5).data.toList = [c0, c1, c2, c3, c4] := by rw [Lib.extract_data, e0]; rfl
  have hEF (hasc : h.size ≤ 1024 → 6 ≤ h.size → asciiS (h.extract 0 5) = true) : strings_EqualFold.f (h.extract 0 5) WB = some (Lib.equalFold [c0, c1, c2, c3, c4] [98, 97, 115, 105, 99]) := by
    unfold strings_EqualFold.f
    rw [if_pos ⟨by have : (h.extract 0 5).size = (h.extract 0 5).data.toList.length := by simp
                   rw [this, hx5]; show (5 : Nat) < _; omega, hasc (by omega) (by omega), by decide⟩, hx5]
  have b0 := bt_drop (i := 0) e0
  have b1 := bt_drop (i := 1) b0.2.2
  have b2 := bt_drop (i := 2) b1.2.2
  have b3 := bt_drop (i := 3) b2.2.2
  have b4 := bt_drop (i := 4) b3.2.2
  have b5 := bt_drop (i := 5) b4.2.2
  have hP (hasc : h.size ≤ 1024 → 6 ≤ h.size → asciiS (h.extract 0 5) = true) {r : ByteArray × ByteArray × Int} (hr : Ev (fun k => if Lib.equalFold [c0, c1, c2, c3, c4] [98, 97, 115, 105, 99] = true then client_Basic.j0 k h ((c5.toNat : Int) != 32) else client_Basic.j0 k h true) r) :
      Ev (fun k => if (h.size : Int) > 1024 then (client_Basic.j0 k h true) else (if (h.size : Int) < 6 then (client_Basic.j0 k h true) else (if 0 ≤ 5 then (if 5 ≤ (h.size : Int) then ((strings_EqualFold.f (h.extract 0 5) (⟨#[98, 97, 115, 105, 99]⟩ : ByteArray)).bind fun t209 => (if t209 = true then (if 5 < (h.size : Int) then (client_Basic.j0 k h ((bt h 5) != 32)) else (none)) else (client_Basic.j0 k h true))) else (none)) else (none)))) r := by
    refine Ev.neg h1 (Ev.neg h2 (Ev.pos (by omega) (Ev.pos (by omega) (Ev.bind (Ev.congr (fun _ => hEF hasc) (Ev.now _)) ?_))))
    refine Ev.congr (fun k => ?_) hr
    rw [if_pos (show (5 : Int) < (h.size : Int) from b5.1), show bt h 5 = (c5.toNat : Int) from b5.2.1]
  have hR {r : ByteArray × ByteArray × Int} (hr : Lib.equalFold [c0, c1, c2, c3, c4] [98, 97, 115, 105, 99] = true → Ev (fun k => wicketref11_Basic.l1 k h ((5 : Nat) : Int)) r) (he : Lib.equalFold [c0, c1, c2, c3, c4] [98, 97, 115, 105, 99] = false → r = E3) :
      Ev (fun k => if (h.size : Int) > 1024 then (wicketref11_Basic.j0 k h WB true) else (wicketref11_Basic.j0 k h WB (decide ((h.size : Int) < 6)))) r := by
    refine Ev.neg h1 ?_
    rw [decide_eq_false h2]
    refine Ev.step (f := fun k => wicketref11_Basic.l0 k h WB ((0 : Nat) : Int)) (fun k => by simp only [wicketref11_Basic.j0, Bool.false_eq_true, if_false]; rfl) ?_
    refine step_i h 0 (by omega) c0 98 ⟨b0.1, b0.2.1⟩ (by decide) (by decide) (fun f0 => ?_) (fun f0 => he (by simp [Lib.equalFold, f0]))
    refine step_i h 1 (by omega) c1 97 ⟨b1.1, b1.2.1⟩ (by decide) (by decide) (fun f1 => ?_) (fun f1 => he (by simp [Lib.equalFold, f1]))
    refine step_i h 2 (by omega) c2 115 ⟨b2.1, b2.2.1⟩ (by decide) (by decide) (fun f2 => ?_) (fun f2 => he (by simp [Lib.equalFold, f2]))
    refine step_i h 3 (by omega) c3 105 ⟨b3.1, b3.2.1⟩ (by decide) (by decide) (fun f3 => ?_) (fun f3 => he (by simp [Lib.equalFold, f3]))
    refine step_i h 4 (by omega) c4 99 ⟨b4.1, b4.2.1⟩ (by decide) (by decide) (fun f4 => ?_) (fun f4 => he (by simp [Lib.equalFold, f4]))
    refine Ev.step (fun k => ?_) (hr (by simp [Lib.equalFold, f0, f1, f2, f3, f4]))
    simp only [wicketref11_Basic.l0]
    rw [if_neg (by omega)]
    rfl
  by_cases hq' : Lib.equalFold [c0, c1, c2, c3, c4] [98, 97, 115, 105, 99] = false
  · have hq : ¬ Lib.equalFold [c0, c1, c2, c3, c4] [98, 97, 115, 105, 99] = true := by rw [hq']; decide
    exact ⟨E3, fun ha => hP ha (Ev.neg hq pj0), hR (fun e => absurd e hq) (fun _ => rfl), fun _ _ _ => rfl, by decide, by decide⟩
  have hq : Lib.equalFold [c0, c1, c2, c3, c4] [98, 97, 115, 105, 99] = true := by simpa using hq'
  let T : ByteArray := ⟨(Lib.trimLeftB (h.data.toList.drop 5) 32).toArray⟩
  have hTl : T.data.toList = (c5 :: l6).dropWhile (· == 32) := by show (Lib.trimLeftB (h.data.toList.drop 5) 32).toArray.toList = _; rw [b4.2.2]; rfl
  have hTs : T.size ≤ 1024 := by
    have e1 : T.size = T.data.toList.length := by simp
    have e2 : ((c5 :: l6).dropWhile (· == 32)).length ≤ (c5 :: l6).length := (List.dropWhile_sublist _).length_le
    have e3 : (c5 :: l6).length ≤ h.size := by rw [← hl, e0]; simp
    rw [e1, hTl]; omega
  obtain ⟨x, ok, y, ok', d1, d2, d3, d4, d5⟩ := dec_both T (by omega)
  subst d4
  refine ⟨if c5 = 32 ∧ ok = true then saidP x.data.toList else E3, fun ha => hP ha (Ev.pos hq ?_), hR (fun _ => ?_) (fun e => absurd hq (by simp [e])), fun _ _ hw => ?_, ?_⟩
  · by_cases h5 : c5 = 32
    · rw [show ((c5.toNat : Int) != 32) = false by rw [h5]; rfl]
      refine Ev.step (f := fun k => (client_common.f k T).bind fun bt211 => ((strings_Cut.f bt211.1 (⟨#[58]⟩ : ByteArray)).bind fun bt213 => ((urlform_Unescape.f bt213.1).bind fun bt216 => ((urlform_Unescape.f bt213.2.1).bind fun bt219 => (if bt211.2 = true then (if bt213.2.2 = true then (if bt216.2.1 = 0 then (if bt219.2.1 = 0 then (some (bt216.1, bt219.1, 0)) else (some ((⟨#[]⟩ : ByteArray), (⟨#[]⟩ : ByteArray), 113))) else (some ((⟨#[]⟩ : ByteArray), (⟨#[]⟩ : ByteArray), 113))) else (some ((⟨#[]⟩ : ByteArray), (⟨#[]⟩ : ByteArray), 113))) else (some ((⟨#[]⟩ : ByteArray), (⟨#[]⟩ : ByteArray), 113))))))) (fun k => ?_) ?_
      · simp only [client_Basic.j0, Bool.false_eq_true, if_false]
        rw [if_pos (by omega), show strings_TrimLeft.f (h.extract 5 h.size) (⟨#[32]⟩ : ByteArray) = some T from by
          unfold strings_TrimLeft.f
          rw [if_pos ⟨rfl, by decide⟩, Lib.extract_data, List.take_of_length_le (by rw [List.length_drop]; omega)]
          rfl, Option.bind_some]
      · refine Ev.bind d1 (Ev.congr (fun _ => tailP x ok d2) (Ev.eq (Ev.now _) ?_))
        by_cases ho : ok = true
        · rw [if_pos ho, if_pos ⟨h5, ho⟩]
        · rw [if_neg ho, if_neg (fun e => ho e.2)]
    · rw [if_neg (fun e => h5 e.1), show ((c5.toNat : Int) != 32) = true by
        rw [bne_iff_ne]; exact fun e => h5 (UInt8.toNat_inj.1 (by exact Int.ofNat.inj e))]
      exact pj0
  · refine l1r_ev h (by omega) _ 5 b4.2.2 (by omega) (fun j a b c e f => ?_)
    have hj : h.extract ((j : Int)).toNat h.size = T := by
      apply ba_ext
      rw [hTl, ← c, Lib.extract_data, Int.toNat_natCast, List.take_of_length_le (by rw [List.length_drop]; omega)]
    refine Ev.step (f := fun k => (wicketref11_decoded.f k T).bind fun bt466 => (if (j : Int) = 5 then (wicketref11_Basic.j5 k bt466.1 true) else (wicketref11_Basic.j5 k bt466.1 (!bt466.2)))) (fun k => ?_) (Ev.bind d3 ?_)
    · simp only [wicketref11_Basic.j4]
      rw [if_pos (by omega), if_pos (by omega), hj]
    · have j5e (z : ByteArray) : Ev (fun k => wicketref11_Basic.j5 k z true) E3 := Ev.step (f := fun _ => some E3) (fun k => by simp only [wicketref11_Basic.j5, if_true]) (Ev.now _)
      by_cases h5 : c5 = 32
      · have := e (by rw [h5]; rfl)
        refine Ev.neg (by omega) ?_
        by_cases ho : ok = true
        · rw [if_pos ⟨h5, ho⟩, ho]
          rw [← d5 ho]
          exact j5_yes x d2
        · rw [if_neg (fun e => ho e.2), show ok = false by simpa using ho]
          exact j5e y
      · have := f (fun e => h5 (Option.some.inj e))
        rw [if_neg (fun e => h5 e.1)]
        exact Ev.pos (by omega) (j5e y)
  · exfalso
    simp only [Lib.equalFold, Bool.and_eq_true, Bool.and_true] at hq
    have q0 := fold_ascii hq.1 (by decide)
    have q1 := fold_ascii hq.2.1 (by decide)
    have q2 := fold_ascii hq.2.2.1 (by decide)
    have q3 := fold_ascii hq.2.2.2.1 (by decide)
    have q4 := fold_ascii hq.2.2.2.2 (by decide)
    unfold asciiS at hw
    rw [hx5] at hw
    simp [q0, q1, q2, q3, q4] at hw
  · split
    · exact saidP_sz x d2
    · exact ⟨by decide, by decide⟩
end Go.Proofs.YtmimipgmhgalaaaGreatDoor.Pure
end
section
namespace Go.Proofs.YtmimipgmhgalaaaGreatDoor.Pure
open Go.RowKit Go.Proofs.YtmimipgmhgalaaaGreatDoorW.PrintWords Go.Proofs.YtmimipgmhgalaaaGreatDoor.Plain Go.Proofs.YtmimipgmhgalaaaGreatDoor.PAll
set_option linter.unusedVariables false
theorem tabs_basics {W : World} (h : laidMet Tryz.prog Rows.clientBasicsRow.laid W) : FoldT W := foldT_of_laid h (by simp [Rows.clientBasicsRow]) (by simp [Rows.clientBasicsRow])
theorem row_basics (a0 : ByteArray) (ok : a0.size ≤ 140737488351232) (W : World) (hT : FoldT W) : Calls Tryz.prog 9 #[.string a0] W fun e w' => e = .returned (.bool true) ∧ Below W.heap.size W w' := by
  obtain ⟨r, h1, h2, h3, _⟩ := basic_all a0
  by_cases hw : a0.size ≤ 1024 ∧ 6 ≤ a0.size ∧ asciiS (a0.extract 0 5) = false
  · obtain ⟨w1, w2, w3⟩ := hw
    obtain rfl := h3 w1 w2 w3
    obtain ⟨k, hk⟩ := h2.rounds
    exact basics_wide k a0 w1 w2 w3 W hT hk
  · have hasc : a0.size ≤ 1024 → 6 ≤ a0.size → asciiS (a0.extract 0 5) = true := fun e1 e2 => by
      cases h : asciiS (a0.extract 0 5) with
      | true => rfl
      | false => exact absurd ⟨e1, e2, h⟩ hw
    have hE : Ev (fun k => wicketlaw11_ClientBasics.f k a0) true := by
      unfold wicketlaw11_ClientBasics.f
      refine Ev.bind (h1 hasc) (Ev.bind h2 ?_)
      exact Ev.pos rfl (Ev.pos rfl (Ev.bind (Ev.now _) (Ev.pos rfl (Ev.now true))))
    obtain ⟨k, hk⟩ := hE.rounds
    exact wicketlaw11_ClientBasics.calls k a0 true W hk
end Go.Proofs.YtmimipgmhgalaaaGreatDoor.Pure
end
