/-
  Part 5 of what the proof of ClientParses leans on: words of the print, walks of functions and plain laws; put together by pack.py, a program of this session.
-/
import Derived.Lib.ConvBytes
import Derived.Laws.BitsLemmas
import Derived.Lib.Hide
import Derived.Great.Walk
import Derived.Outline
import Derived.Test.YtmimipgmhgalaaaGreatDoorRows
import Derived.ProofKit
import Derived.WalkKit
import Derived.SizedLaws
import Derived.Test.YtmimipgmhgalaaaGreatDoorKClientParsesd
section
namespace Go.Proofs.YtmimipgmhgalaaaGreatDoor.PAll
open Go.RowKit Go.Proofs.YtmimipgmhgalaaaGreatDoorW.PrintWords Go.Proofs.YtmimipgmhgalaaaGreatDoorW.PrintLast Go.Proofs.YtmimipgmhgalaaaGreatDoorW.PrintMore
attribute [local go_sem] max2_int min2_int max_two min_two max_three min_three max_four min_four
set_option linter.unusedVariables false
set_option linter.unusedSimpArgs false
mutual
def wicketref11_Parse.l0 : Nat → ByteArray → List (S43) → Int → Int → Int → Option ((List (S43)) × Int × Int)
 | 0, _, _, _, _, _ => none
 | k + 1, x0, x5, x6, x7, x8 => if x8 ≤ (x0.size : Int) then (if x8 < (x0.size : Int) then (if 0 ≤ x8 then (wicketref11_Parse.j1 k x0 x5 x6 x7 x8 ((bt x0 x8) != 10)) else (none)) else (wicketref11_Parse.j1 k x0 x5 x6 x7 x8 false)) else (some (x5, 0, 0))
def wicketref11_Parse.j1 : Nat → ByteArray → List (S43) → Int → Int → Int → Bool → Option ((List (S43)) × Int × Int)
 | 0, _, _, _, _, _, _ => none
 | k + 1, x0, x5, x6, x7, x8, x32 => if x32 = true then (wicketref11_Parse.l0 k x0 x5 x6 x7 (wrap64 (x8 + 1))) else (if 0 ≤ x7 then (if x7 ≤ x8 then (if x8 ≤ (x0.size : Int) then (if (x0.extract (x7 : Int).toNat (x8 : Int).toNat).toList = ([] : List UInt8) then (wicketref11_Parse.j2 k x0 x5 (wrap64 (x6 + 1)) (wrap64 (x8 + 1)) x8 (x0.extract (x7 : Int).toNat (x8 : Int).toNat) true) else (if 0 < ((x0.extract (x7 : Int).toNat (x8 : Int).toNat).size : Int) then (wicketref11_Parse.j2 k x0 x5 (wrap64 (x6 + 1)) (wrap64 (x8 + 1)) x8 (x0.extract (x7 : Int).toNat (x8 : Int).toNat) ((bt (x0.extract (x7 : Int).toNat (x8 : Int).toNat) 0) == 35)) else (none))) else (none)) else (none)) else (none))
def wicketref11_Parse.j2 : Nat → ByteArray → List (S43) → Int → Int → Int → ByteArray → Bool → Option ((List (S43)) × Int × Int)
 | 0, _, _, _, _, _, _, _ => none
 | k + 1, x0, x5, x6, x7, x8, x9, x47 => if x47 = true then (wicketref11_Parse.l0 k x0 x5 x6 x7 (wrap64 (x8 + 1))) else ((wicketref11_line.f x9).bind fun bt409 => (if bt409.2.2.2.2.2.2 = true then ((wicketref11_Find.f k x5 bt409.1).bind fun bt419 => (if bt419.2.2.2.2.2.2 = true then (some (([] : List (S43)), 8, x6)) else (if (x5.length : Int) = 256 then (some (([] : List (S43)), 32, x6)) else (if x5.length < 1599289640401 then (wicketref11_Parse.l0 k x0 (x5 ++ [(⟨bt409.1, bt409.2.1, bt409.2.2.1, bt409.2.2.2.1, bt409.2.2.2.2.1, bt409.2.2.2.2.2.1⟩ : S43)]) x6 x7 (wrap64 (x8 + 1))) else (none))))) else (some (([] : List (S43)), 110, x6))))
end
def wicketref11_Parse.f (k : Nat) (a0 : ByteArray) : Option ((List (S43)) × Int × Int) := if (a0.size : Int) > 65536 then (some (([] : List (S43)), 1, 0)) else (wicketref11_Parse.l0 k a0 ([] : List (S43)) 0 0 0)
set_option maxHeartbeats 8000000 in
set_option maxRecDepth 100000 in
theorem wicketref11_Parse.calls (k : Nat) (a0 : ByteArray) (r1 : List (S43)) (r2 : Int) (r3 : Int) (w : World) (h : wicketref11_Parse.f k a0 = some (r1, r2, r3)) :
 Calls Tryz.prog 27 #[.string a0] w fun e w' => ∃ v0_ : Value, e = .returned (.tuple #[v0_, .int .i64 r2, .int .i64 r3]) ∧ Kd.S k43 43 w' w.heap.size (fun _ => True) v0_ r1 ∧ Below w.heap.size w w' := by
 have hu43 := Tryz.underlying43
 have HB := Aside0.mk (Below.refl w.heap.size w)
 have H : (if (a0.size : Int) > 65536 then (some (([] : List (S43)), 1, 0)) else (wicketref11_Parse.l0 k a0 ([] : List (S43)) 0 0 0)) = some (r1, r2, r3) := h
 clear h
 by_cases c2 : (a0.size : Int) > 65536
 · rw [if_pos c2] at H
   have c2b0 : decide (65536 < (a0.size : Int)) = true := decide_eq_true c2
   have c2b1 : decide (65536 < a0.size) = true := decide_eq_true (by omega)
   clear c2
   simp only [Option.some.injEq, Prod.mk.injEq] at H
   obtain ⟨rfl, rfl, rfl⟩ := H
   go_enter Tryz.func27, Tryz.ntmps27
   go_wp2
   go_ret3
   exact ⟨_, rfl, by (exact Kd.S_nil _ _ _ _ _), by (with_reducible exact HB.out)⟩
 · rw [if_neg c2] at H
   have c2b0 : decide (65536 < (a0.size : Int)) = false := decide_eq_false c2
   have c2b1 : decide (65536 < a0.size) = false := decide_eq_false (by omega)
   clear c2
   have H' := Aside0.mk H
   clear H
   go_enter Tryz.func27, Tryz.ntmps27
   go_wp2
   go_loopg [5, 6, 7, 8] k (fun kq v5 v6 v7 v8 w' => ∃ (x5_1 : List (S43)) (x6_1 : Int) (x7_1 : Int) (x8_1 : Int), v6 = .int .i64 x6_1 ∧ v7 = .int .i64 x7_1 ∧ v8 = .int .i64 x8_1 ∧ Aside0 (wicketref11_Parse.l0 kq a0 x5_1 x6_1 x7_1 x8_1 = some (r1, r2, r3)) ∧ Aside0 (kq ≤ k) ∧ Aside0 (Kd.S k43 43 w' w.heap.size (fun _ => True) v5 x5_1) ∧ Aside0 (Below w.heap.size w w'))
   case atStart => exact ⟨(([] : List (S43))), (0), (0), (0), rfl, rfl, rfl, H', ⟨Nat.le_refl _⟩, ⟨by (exact Kd.S_nil _ _ _ _ _)⟩, ⟨HB.out⟩⟩
   case round =>
    clear H' c2b0 c2b1
    obtain ⟨x5_1, x6_1, x7_1, x8_1, rfl, rfl, rfl, HA, HK1, HO_5, HB⟩ := hrel
    cases gk with
    | zero => exact absurd HA.out (by simp [wicketref11_Parse.l0])
    | succ k1 =>
     have H := HA.out
     clear HA
     simp only [wicketref11_Parse.l0] at H
     by_cases c3 : x8_1 ≤ (a0.size : Int)
     · rw [if_pos c3] at H
       have c3b0 : decide (x8_1 ≤ (a0.size : Int)) = true := decide_eq_true c3
       clear c3
       have HC4 := Aside0.mk H
       clear H
       go_upto_region 9 with (fail)
       go_cut [32] (fun v32 wc => ∃ (kq : Nat) (x32_3 : Bool), v32 = .bool x32_3 ∧ Aside0 (wicketref11_Parse.j1 kq a0 x5_1 x6_1 x7_1 x8_1 x32_3 = some (r1, r2, r3)) ∧ Aside0 (kq ≤ k1) ∧ Aside0 (Kd.S k43 43 wc w.heap.size (fun _ => True) u5 x5_1) ∧ Aside0 (Below w.heap.size w wc))
       case first =>
        have H := HC4.out
        clear HC4
        by_cases c5 : x8_1 < (a0.size : Int)
        · rw [if_pos c5] at H
          have c5b0 : decide (x8_1 < (a0.size : Int)) = true := decide_eq_true c5
          clear c5
          by_cases c6 : 0 ≤ x8_1
          · rw [if_pos c6] at H
            have c6b0 : decide (0 ≤ x8_1) = true := decide_eq_true c6
            clear c6
            have H' := Aside0.mk H
            clear H
            have p7 : 0 ≤ (x8_1 : Int) := of_decide_eq_true (by assumption)
            have q7 : x8_1 < (a0.size : Int) := of_decide_eq_true (by assumption)
            have hx7 := bt_at a0 x8_1
            replace p7 := eq_true p7
            replace q7 := eq_true q7
            go_wp2
            go_meet
            case rel => exact ⟨_, (((bt a0 x8_1) != 10)), rfl, H', ⟨by have := HK1.out; (omega)⟩, ⟨HO_5.out⟩, ⟨HB.out⟩⟩
          · rw [if_neg c6] at H
            exact absurd H (by simp)
        · rw [if_neg c5] at H
          have c5b0 : decide (x8_1 < (a0.size : Int)) = false := decide_eq_false c5
          clear c5
          have H' := Aside0.mk H
          clear H
          go_wp2
          go_meet
          case rel => exact ⟨_, (false), rfl, H', ⟨by have := HK1.out; (omega)⟩, ⟨HO_5.out⟩, ⟨HB.out⟩⟩
       case rest =>
        clear HC4 c3b0
        obtain ⟨kq, x32_3, rfl, HA, HJ3, HO_5, HB⟩ := hcut
        cases kq with
        | zero => exact absurd HA.out (by simp [wicketref11_Parse.j1])
        | succ kj3 =>
         have H := HA.out
         clear HA
         simp only [wicketref11_Parse.j1] at H
         by_cases c8 : x32_3 = true
         · subst c8
           have H1 : (wicketref11_Parse.l0 kj3 a0 x5_1 x6_1 x7_1 (wrap64 (x8_1 + 1))) = some (r1, r2, r3) := by rw [if_pos rfl] at H; exact H
           clear H
           have H := H1
           clear H1
           have H' := Aside0.mk H
           clear H
           go_wp2
           go_roundg kj3
           case measure => have := HK1.out; have := HJ3.out; omega
           case rel => exact ⟨(x5_1), (x6_1), (x7_1), (wrap64 (x8_1 + 1)), rfl, rfl, rfl, H', ⟨by have := HK1.out; have := HJ3.out; omega⟩, ⟨HO_5.out⟩, ⟨HB.out⟩⟩
         · replace c8 := Bool.eq_false_iff.mpr c8
           subst c8
           have H1 : (if 0 ≤ x7_1 then (if x7_1 ≤ x8_1 then (if x8_1 ≤ (a0.size : Int) then (if (a0.extract (x7_1 : Int).toNat (x8_1 : Int).toNat).toList = ([] : List UInt8) then (wicketref11_Parse.j2 kj3 a0 x5_1 (wrap64 (x6_1 + 1)) (wrap64 (x8_1 + 1)) x8_1 (a0.extract (x7_1 : Int).toNat (x8_1 : Int).toNat) true) else (if 0 < ((a0.extract (x7_1 : Int).toNat (x8_1 : Int).toNat).size : Int) then (wicketref11_Parse.j2 kj3 a0 x5_1 (wrap64 (x6_1 + 1)) (wrap64 (x8_1 + 1)) x8_1 (a0.extract (x7_1 : Int).toNat (x8_1 : Int).toNat) ((bt (a0.extract (x7_1 : Int).toNat (x8_1 : Int).toNat) 0) == 35)) else (none))) else (none)) else (none)) else (none)) = some (r1, r2, r3) := by rw [if_neg (show ¬ (false = true) by decide)] at H; exact H
           clear H
           have H := H1
           clear H1
           by_cases c9 : 0 ≤ x7_1
           · rw [if_pos c9] at H
             have c9b0 := eq_true c9
             have c9b1 : decide (0 ≤ x7_1) = true := decide_eq_true c9
             clear c9
             by_cases c10 : x7_1 ≤ x8_1
             · rw [if_pos c10] at H
               have c10b0 := eq_true c10
               have c10b1 : decide (x7_1 ≤ x8_1) = true := decide_eq_true c10
               clear c10
               by_cases c11 : x8_1 ≤ (a0.size : Int)
               · rw [if_pos c11] at H
                 have c11b0 := eq_true c11
                 have c11b1 : decide (x8_1 ≤ (a0.size : Int)) = true := decide_eq_true c11
                 clear c11
                 have HC12 := Aside0.mk H
                 clear H
                 go_upto_region 13 with (fail)
                 go_cut [47] (fun v47 wc => ∃ (kq : Nat) (x47_11 : Bool), v47 = .bool x47_11 ∧ Aside0 (wicketref11_Parse.j2 kq a0 x5_1 (wrap64 (x6_1 + 1)) (wrap64 (x8_1 + 1)) x8_1 (a0.extract (x7_1 : Int).toNat (x8_1 : Int).toNat) x47_11 = some (r1, r2, r3)) ∧ Aside0 (kq ≤ kj3) ∧ Aside0 (Kd.S k43 43 wc w.heap.size (fun _ => True) u5 x5_1) ∧ Aside0 (Below w.heap.size w wc))
                 case first =>
                  have H := HC12.out
                  clear HC12
                  by_cases c13 : (a0.extract (x7_1 : Int).toNat (x8_1 : Int).toNat).toList = ([] : List UInt8)
                  · rw [if_pos c13] at H
                    have c13b0 : ((a0.extract (x7_1 : Int).toNat (x8_1 : Int).toNat).toList == ([] : List UInt8)) = true := beq_iff_eq.mpr c13
                    have c13b1 : ((a0.extract (x7_1 : Int).toNat (x8_1 : Int).toNat).toList != ([] : List UInt8)) = false := bne_eq_false_iff_eq.mpr c13
                    clear c13
                    have H' := Aside0.mk H
                    clear H
                    go_wp2
                    go_meet
                    case rel => exact ⟨_, (true), rfl, H', ⟨by have := HK1.out; have := HJ3.out; (omega)⟩, ⟨HO_5.out⟩, ⟨HB.out⟩⟩
                  · rw [if_neg c13] at H
                    have c13b0 : ((a0.extract (x7_1 : Int).toNat (x8_1 : Int).toNat).toList == ([] : List UInt8)) = false := beq_eq_false_iff_ne.mpr c13
                    have c13b1 : ((a0.extract (x7_1 : Int).toNat (x8_1 : Int).toNat).toList != ([] : List UInt8)) = true := bne_iff_ne.mpr c13
                    by_cases c14 : 0 < ((a0.extract (x7_1 : Int).toNat (x8_1 : Int).toNat).size : Int)
                    · rw [if_pos c14] at H
                      have c14b0 : decide (0 < ((a0.extract (x7_1 : Int).toNat (x8_1 : Int).toNat).size : Int)) = true := decide_eq_true c14
                      have c14b1 : decide (0 < (a0.extract (x7_1 : Int).toNat (x8_1 : Int).toNat).size) = true := decide_eq_true (by omega)
                      have c14b9 : (0 < (x8_1).toNat - (x7_1).toNat) = True := eq_true (by have h_ := of_decide_eq_true c14b1; rw [ByteArray.size_extract] at h_; omega)
                      clear c14
                      have H' := Aside0.mk H
                      clear H
                      have p15 : 0 ≤ (0 : Int) := (by omega)
                      have q15 : 0 < (a0.extract (x7_1 : Int).toNat (x8_1 : Int).toNat).size := (by have : (0 : Int) < ((a0.extract (x7_1 : Int).toNat (x8_1 : Int).toNat).size : Int) := of_decide_eq_true (by assumption); omega)
                      have hx15 : ∀ h : 0 < (a0.extract (x7_1 : Int).toNat (x8_1 : Int).toNat).size, (((a0.extract (x7_1 : Int).toNat (x8_1 : Int).toNat)[0]'h).toNat : Int) = bt (a0.extract (x7_1 : Int).toNat (x8_1 : Int).toNat) 0 := bt_at (a0.extract (x7_1 : Int).toNat (x8_1 : Int).toNat) 0
                      clear p15
                      have qi15 : (0 < ((a0.extract (x7_1 : Int).toNat (x8_1 : Int).toNat).size : Int)) = True := eq_true (of_decide_eq_true (by assumption))
                      replace q15 := eq_true q15
                      go_wp2
                      go_meet
                      case rel => exact ⟨_, (((bt (a0.extract (x7_1 : Int).toNat (x8_1 : Int).toNat) 0) == 35)), rfl, H', ⟨by have := HK1.out; have := HJ3.out; (omega)⟩, ⟨HO_5.out⟩, ⟨HB.out⟩⟩
                    · rw [if_neg c14] at H
                      exact absurd H (by simp)
                 case rest =>
                  clear HC12 c9b0 c9b1 c10b0 c10b1 c11b0 c11b1
                  obtain ⟨kq, x47_11, rfl, HA, HJ11, HO_5, HB⟩ := hcut
                  cases kq with
                  | zero => exact absurd HA.out (by simp [wicketref11_Parse.j2])
                  | succ kj11 =>
                   have H := HA.out
                   clear HA
                   simp only [wicketref11_Parse.j2] at H
                   by_cases c16 : x47_11 = true
                   · subst c16
                     have H1 : (wicketref11_Parse.l0 kj11 a0 x5_1 (wrap64 (x6_1 + 1)) (wrap64 (x8_1 + 1)) (wrap64 (x8_1 + 1))) = some (r1, r2, r3) := by rw [if_pos rfl] at H; exact H
                     clear H
                     have H := H1
                     clear H1
                     have H' := Aside0.mk H
                     clear H
                     go_wp2
                     go_roundg kj11
                     case measure => have := HK1.out; have := HJ3.out; have := HJ11.out; omega
                     case rel => exact ⟨(x5_1), ((wrap64 (x6_1 + 1))), ((wrap64 (x8_1 + 1))), (wrap64 (x8_1 + 1)), rfl, rfl, rfl, H', ⟨by have := HK1.out; have := HJ3.out; have := HJ11.out; omega⟩, ⟨HO_5.out⟩, ⟨HB.out⟩⟩
                   · replace c16 := Bool.eq_false_iff.mpr c16
                     subst c16
                     have H1 : ((wicketref11_line.f (a0.extract (x7_1 : Int).toNat (x8_1 : Int).toNat)).bind fun bt409 => (if bt409.2.2.2.2.2.2 = true then ((wicketref11_Find.f kj11 x5_1 bt409.1).bind fun bt419 => (if bt419.2.2.2.2.2.2 = true then (some (([] : List (S43)), 8, (wrap64 (x6_1 + 1)))) else (if (x5_1.length : Int) = 256 then (some (([] : List (S43)), 32, (wrap64 (x6_1 + 1)))) else (if x5_1.length < 1599289640401 then (wicketref11_Parse.l0 kj11 a0 (x5_1 ++ [(⟨bt409.1, bt409.2.1, bt409.2.2.1, bt409.2.2.2.1, bt409.2.2.2.2.1, bt409.2.2.2.2.2.1⟩ : S43)]) (wrap64 (x6_1 + 1)) (wrap64 (x8_1 + 1)) (wrap64 (x8_1 + 1))) else (none))))) else (some (([] : List (S43)), 110, (wrap64 (x6_1 + 1)))))) = some (r1, r2, r3) := by rw [if_neg (show ¬ (false = true) by decide)] at H; exact H
                     clear H
                     have H := H1
                     clear H1
                     replace H := Option.bind_eq_some_iff.mp H
                     obtain ⟨⟨t409, t410, t411, t412, t413, t414, t417⟩, A170, H⟩ := H
                     replace H : (if t417 = true then ((wicketref11_Find.f kj11 x5_1 t409).bind fun bt419 => (if bt419.2.2.2.2.2.2 = true then (some (([] : List (S43)), 8, (wrap64 (x6_1 + 1)))) else (if (x5_1.length : Int) = 256 then (some (([] : List (S43)), 32, (wrap64 (x6_1 + 1)))) else (if x5_1.length < 1599289640401 then (wicketref11_Parse.l0 kj11 a0 (x5_1 ++ [(⟨t409, t410, t411, t412, t413, t414⟩ : S43)]) (wrap64 (x6_1 + 1)) (wrap64 (x8_1 + 1)) (wrap64 (x8_1 + 1))) else (none))))) else (some (([] : List (S43)), 110, (wrap64 (x6_1 + 1))))) = some (r1, r2, r3) := H
                     have A17 := Aside0.mk A170
                     clear A170
                     by_cases c18 : t417 = true
                     · subst c18
                       have H1 : ((wicketref11_Find.f kj11 x5_1 t409).bind fun bt419 => (if bt419.2.2.2.2.2.2 = true then (some (([] : List (S43)), 8, (wrap64 (x6_1 + 1)))) else (if (x5_1.length : Int) = 256 then (some (([] : List (S43)), 32, (wrap64 (x6_1 + 1)))) else (if x5_1.length < 1599289640401 then (wicketref11_Parse.l0 kj11 a0 (x5_1 ++ [(⟨t409, t410, t411, t412, t413, t414⟩ : S43)]) (wrap64 (x6_1 + 1)) (wrap64 (x8_1 + 1)) (wrap64 (x8_1 + 1))) else (none))))) = some (r1, r2, r3) := by rw [if_pos rfl] at H; exact H
                       clear H
                       have H := H1
                       clear H1
                       replace H := Option.bind_eq_some_iff.mp H
                       obtain ⟨⟨t419, t420, t421, t422, t423, t424, t427⟩, A190, H⟩ := H
                       replace H : (if t427 = true then (some (([] : List (S43)), 8, (wrap64 (x6_1 + 1)))) else (if (x5_1.length : Int) = 256 then (some (([] : List (S43)), 32, (wrap64 (x6_1 + 1)))) else (if x5_1.length < 1599289640401 then (wicketref11_Parse.l0 kj11 a0 (x5_1 ++ [(⟨t409, t410, t411, t412, t413, t414⟩ : S43)]) (wrap64 (x6_1 + 1)) (wrap64 (x8_1 + 1)) (wrap64 (x8_1 + 1))) else (none)))) = some (r1, r2, r3) := H
                       have A19 := Aside0.mk A190
                       clear A190
                       by_cases c20 : t427 = true
                       · subst c20
                         have H1 : (some (([] : List (S43)), 8, (wrap64 (x6_1 + 1)))) = some (r1, r2, r3) := by rw [if_pos rfl] at H; exact H
                         clear H
                         have H := H1
                         clear H1
                         simp only [Option.some.injEq, Prod.mk.injEq] at H
                         obtain ⟨rfl, rfl, rfl⟩ := H
                         go_wp2_with (first | ((with_reducible refine gate_callee (f := 60) rfl ?_); refine goesL_ (some 50) rfl rfl Tryz.func60 (by kernel_rfl) rfl #[.string (a0.extract (x7_1 : Int).toNat (x8_1 : Int).toNat)] rfl (by ((try simp only [List.map_toArray, List.map_cons, List.map_nil]); (rfl))) ?_; (with_reducible refine (wicketref11_line.calls (a0.extract (x7_1 : Int).toNat (x8_1 : Int).toNat) t409 t410 t411 t412 t413 t414 true _ A17.out).mono ?_); rintro e w21 ⟨v415, rfl, ho0, hb⟩; refine ⟨_, rfl, ?_⟩; replace HO_5 := Aside0.mk (Kd.S_elder' HO_5.out (Kd.R_base ho0) hb); have HO416 := Aside0.mk (Kd.R_lower ho0 (below_size HB.out)); replace HB := Aside0.mk (below_step HB.out hb); clear hb ho0) | ((with_reducible refine gate_dst (N := 10) rfl ?_); refine box_event ?hg (N := 10) ?hd (cs := #[.string (⟨#[]⟩ : ByteArray), .string (⟨#[]⟩ : ByteArray), .int .i64 0, .bool false, .string (⟨#[]⟩ : ByteArray), .slice none 0 0]) (t := 43) ?hr ?_; (case hd => rfl); (case hg => rfl); (case hr => (go_simp; done)); intro gb418 hg w22 hbox hb; replace HO_5 := Aside0.mk (Kd.S_below (Kd.S_elderB HO_5.out gb418 (Nat.le_of_eq hg.symm)) hb); replace HO416 := Aside0.mk (Kd.R_below HO416.out hb); have BK418 := Aside0.mk hbox; have GW418 := Aside0.mk ((by rw [hg]; exact (below_size HB.out) : w.heap.size ≤ gb418)); have GE418 := Aside0.mk ((by rw [hg]; exact (below_size HB.out) : w.heap.size ≤ gb418)); replace HB := Aside0.mk (below_step HB.out hb); clear hb hbox hg; obtain ⟨hcz23_0, hcz23_1, hcz23_2, hcz23_3, hcz23_4, hcz23_5, hfz23_0, hfz23_1, hfz23_2, hfz23_3, hfz23_4, hfz23_5⟩ := cz6_ BK418.out; obtain ⟨Ao24, co24, eo24⟩ := Kd.R_slice HO416.out; subst eo24) | ((with_reducible refine gate_store (t := 43) (p := 10) rfl ?_); refine store_event (t := 43) (p := 10) (v := ?vo_w25) (w1 := ((((((w22.setCell ⟨gb418, 0, none⟩ (.string t409)).setCell ⟨gb418, 1, none⟩ (.string t410)).setCell ⟨gb418, 2, none⟩ (.int .i64 t411)).setCell ⟨gb418, 3, none⟩ (.bool t412)).setCell ⟨gb418, 4, none⟩ (.string t413)).setCell ⟨gb418, 5, none⟩ (.slice Ao24 t414.length co24))) ?hg ?ho ?hn ?hr ?_; (case ho => rfl); (case hg => rfl); (case hn => rfl); (case hr => (go_simp; done)); intro w25 hw; have n0_ : Aside0 (Kd.S k43 43 w25 w.heap.size (fun k_ => some k_ ≠ (.slice Ao24 t414.length co24 : Value).ownBlock ∧ k_ ≠ gb418) u5 x5_1) := ⟨(by rw [hw]; exact (by (with_reducible repeat (first | apply Kd.S_alloc  | apply Kd.S_drewN  | apply Kd.S_drew)); exact Kd.S_mono (S_far6 (Kd.S_mono HO_5.out (fun k_ hk => (⟨hk, hk.2⟩ : _ ∧ k_ ≠ gb418))) (fun _ hk => hk.2)) (fun _ hk => ⟨hk.1.1.2, hk.1.2⟩)))⟩; have n1_ : Aside0 (Kd.R Kd.string 9 w25 w.heap.size (fun _ => True) (.slice Ao24 t414.length co24) t414) := ⟨(by rw [hw]; exact (by (with_reducible repeat (first | apply Kd.R_alloc  | apply Kd.R_drewN  | apply Kd.R_drew)); exact Kd.R_mono (R_far6 (Kd.R_types HO416.out BK418.out (by decide)) (fun _ hk => hk.2)) (fun _ hk => trivial)))⟩; have n2_ : Aside0 (w25.heap[gb418]? = some (.cells #[.string t409, .string t410, .int .i64 t411, .bool t412, .string t413, .slice Ao24 t414.length co24] 43 (0, 0))) := ⟨(by rw [hw]; exact (put6_ BK418.out _ _ _ _ _ _))⟩; have n3_ : Aside0 (Below w.heap.size w w25) := ⟨(by rw [hw]; exact (by (repeat (with_reducible first | exact HB.out | refine below_set ?_ GE418.out))))⟩; clear hw HO_5; clear HO416 BK418 HB; have HO_5 := n0_; have HO416 := n1_; have BK418 := n2_; have HB := n3_; clear n0_ n1_ n2_ n3_; obtain ⟨hcz26_0, hcz26_1, hcz26_2, hcz26_3, hcz26_4, hcz26_5, hfz26_0, hfz26_1, hfz26_2, hfz26_3, hfz26_4, hfz26_5⟩ := cz6_ BK418.out; obtain ⟨Ao27, co27, eo27⟩ := Kd.S_slice HO_5.out; subst eo27) | ((with_reducible refine gate_callee (f := 30) rfl ?_); refine goesL_ (some 60) rfl rfl Tryz.func30 (by kernel_rfl) rfl #[.slice Ao27 x5_1.length co27, .string t409] rfl (by ((try simp only [List.map_toArray, List.map_cons, List.map_nil]); (rfl))) ?_; (with_reducible refine (wicketref11_Find.calls kj11 (fun k_ => (some k_ ≠ (.slice Ao24 t414.length co24 : Value).ownBlock ∧ k_ ≠ gb418)) _ _ x5_1 t409 t419 t420 t421 t422 t423 t424 true _ ?side1 A19.out).mono ?_); (case side1 => exact Kd.S_V (HO_5.out)); rintro e w28 ⟨v425, rfl, ho0, hb⟩; refine ⟨_, rfl, ?_⟩; replace HO_5 := Aside0.mk (Kd.S_below HO_5.out hb); have HO426 := Aside0.mk (Kd.V_lower (Kd.V_mono (ok' := fun k_ => some k_ ≠ (.slice Ao24 t414.length co24 : Value).ownBlock ∧ k_ ≠ gb418) ho0 (fun k_ hk_ => ⟨Or.elim hk_ (fun hs_ => hs_.1) (fun hn_ => (Kd.fresh' (Kd.R_lt HO416.out) k_ hn_)), Or.elim hk_ (fun hs_ => hs_.2) (fun hn_ => (Kd.freshB (g := gb418) (o := .cells #[.string t409, .string t410, .int .i64 t411, .bool t412, .string t413, .slice Ao24 t414.length co24] 43 (0, 0)) BK418.out k_ hn_))⟩)) (below_size HB.out)); replace HO416 := Aside0.mk (Kd.R_below HO416.out hb); replace BK418 := Aside0.mk (blk_below (g := gb418) (o := .cells #[.string t409, .string t410, .int .i64 t411, .bool t412, .string t413, .slice Ao24 t414.length co24] 43 (0, 0)) BK418.out hb); replace HB := Aside0.mk (below_step HB.out hb); clear hb ho0) | ((with_reducible refine gate_dst (N := 12) rfl ?_); refine box_event ?hg (N := 12) ?hd (cs := #[.string (⟨#[]⟩ : ByteArray), .string (⟨#[]⟩ : ByteArray), .int .i64 0, .bool false, .string (⟨#[]⟩ : ByteArray), .slice none 0 0]) (t := 43) ?hr ?_; (case hd => rfl); (case hg => rfl); (case hr => (go_simp; done)); intro gb428 hg w29 hbox hb; replace HO_5 := Aside0.mk (Kd.S_below (Kd.S_elderB HO_5.out gb428 (Nat.le_of_eq hg.symm)) hb); replace HO416 := Aside0.mk (Kd.R_below HO416.out hb); replace HO426 := Aside0.mk (Kd.V_below (Kd.V_elderB HO426.out gb428 (Nat.le_of_eq hg.symm)) hb); have BK428 := Aside0.mk hbox; have GW428 := Aside0.mk ((by rw [hg]; exact (below_size HB.out) : w.heap.size ≤ gb428)); have GE428 := Aside0.mk ((by rw [hg]; exact (below_size HB.out) : w.heap.size ≤ gb428)); replace HB := Aside0.mk (below_step HB.out hb); have NB418_428 := Aside0.mk ((by rw [hg]; exact Nat.ne_of_lt (blk_lt (g := gb418) (o := .cells #[.string t409, .string t410, .int .i64 t411, .bool t412, .string t413, .slice Ao24 t414.length co24] 43 (0, 0)) BK418.out) : gb418 ≠ gb428)); have NB428_418 := Aside0.mk ((by rw [hg]; exact Nat.ne_of_gt (blk_lt (g := gb418) (o := .cells #[.string t409, .string t410, .int .i64 t411, .bool t412, .string t413, .slice Ao24 t414.length co24] 43 (0, 0)) BK418.out) : gb428 ≠ gb418)); replace BK418 := Aside0.mk (blk_below (g := gb418) (o := .cells #[.string t409, .string t410, .int .i64 t411, .bool t412, .string t413, .slice Ao24 t414.length co24] 43 (0, 0)) BK418.out hb); clear hb hbox hg; have hnb30 := NB428_418.out; have hnc30 := NB418_428.out; obtain ⟨hcz31_0, hcz31_1, hcz31_2, hcz31_3, hcz31_4, hcz31_5, hfz31_0, hfz31_1, hfz31_2, hfz31_3, hfz31_4, hfz31_5⟩ := cz6_ BK428.out; obtain ⟨Ao32, co32, eo32⟩ := Kd.V_slice HO426.out; subst eo32))
                         go_ret3
                         exact ⟨_, rfl, by (exact Kd.S_nil _ _ _ _ _), by (repeat (with_reducible first | exact HB.out | refine below_set ?_ GE428.out))⟩
                       · replace c20 := Bool.eq_false_iff.mpr c20
                         subst c20
                         have H1 : (if (x5_1.length : Int) = 256 then (some (([] : List (S43)), 32, (wrap64 (x6_1 + 1)))) else (if x5_1.length < 1599289640401 then (wicketref11_Parse.l0 kj11 a0 (x5_1 ++ [(⟨t409, t410, t411, t412, t413, t414⟩ : S43)]) (wrap64 (x6_1 + 1)) (wrap64 (x8_1 + 1)) (wrap64 (x8_1 + 1))) else (none))) = some (r1, r2, r3) := by rw [if_neg (show ¬ (false = true) by decide)] at H; exact H
                         clear H
                         have H := H1
                         clear H1
                         by_cases c33 : (x5_1.length : Int) = 256
                         · rw [if_pos c33] at H
                           have c33b0 : ((x5_1.length : Int) == 256) = true := beq_iff_eq.mpr c33
                           have c33b1 : ((x5_1.length : Int) != 256) = false := bne_eq_false_iff_eq.mpr c33
                           clear c33
                           simp only [Option.some.injEq, Prod.mk.injEq] at H
                           obtain ⟨rfl, rfl, rfl⟩ := H
                           go_wp2_with (first | ((with_reducible refine gate_callee (f := 60) rfl ?_); refine goesL_ (some 50) rfl rfl Tryz.func60 (by kernel_rfl) rfl #[.string (a0.extract (x7_1 : Int).toNat (x8_1 : Int).toNat)] rfl (by ((try simp only [List.map_toArray, List.map_cons, List.map_nil]); (rfl))) ?_; (with_reducible refine (wicketref11_line.calls (a0.extract (x7_1 : Int).toNat (x8_1 : Int).toNat) t409 t410 t411 t412 t413 t414 true _ A17.out).mono ?_); rintro e w34 ⟨v415, rfl, ho0, hb⟩; refine ⟨_, rfl, ?_⟩; replace HO_5 := Aside0.mk (Kd.S_elder' HO_5.out (Kd.R_base ho0) hb); have HO416 := Aside0.mk (Kd.R_lower ho0 (below_size HB.out)); replace HB := Aside0.mk (below_step HB.out hb); clear hb ho0) | ((with_reducible refine gate_dst (N := 10) rfl ?_); refine box_event ?hg (N := 10) ?hd (cs := #[.string (⟨#[]⟩ : ByteArray), .string (⟨#[]⟩ : ByteArray), .int .i64 0, .bool false, .string (⟨#[]⟩ : ByteArray), .slice none 0 0]) (t := 43) ?hr ?_; (case hd => rfl); (case hg => rfl); (case hr => (go_simp; done)); intro gb418 hg w35 hbox hb; replace HO_5 := Aside0.mk (Kd.S_below (Kd.S_elderB HO_5.out gb418 (Nat.le_of_eq hg.symm)) hb); replace HO416 := Aside0.mk (Kd.R_below HO416.out hb); have BK418 := Aside0.mk hbox; have GW418 := Aside0.mk ((by rw [hg]; exact (below_size HB.out) : w.heap.size ≤ gb418)); have GE418 := Aside0.mk ((by rw [hg]; exact (below_size HB.out) : w.heap.size ≤ gb418)); replace HB := Aside0.mk (below_step HB.out hb); clear hb hbox hg; obtain ⟨hcz36_0, hcz36_1, hcz36_2, hcz36_3, hcz36_4, hcz36_5, hfz36_0, hfz36_1, hfz36_2, hfz36_3, hfz36_4, hfz36_5⟩ := cz6_ BK418.out; obtain ⟨Ao37, co37, eo37⟩ := Kd.R_slice HO416.out; subst eo37) | ((with_reducible refine gate_store (t := 43) (p := 10) rfl ?_); refine store_event (t := 43) (p := 10) (v := ?vo_w38) (w1 := ((((((w35.setCell ⟨gb418, 0, none⟩ (.string t409)).setCell ⟨gb418, 1, none⟩ (.string t410)).setCell ⟨gb418, 2, none⟩ (.int .i64 t411)).setCell ⟨gb418, 3, none⟩ (.bool t412)).setCell ⟨gb418, 4, none⟩ (.string t413)).setCell ⟨gb418, 5, none⟩ (.slice Ao37 t414.length co37))) ?hg ?ho ?hn ?hr ?_; (case ho => rfl); (case hg => rfl); (case hn => rfl); (case hr => (go_simp; done)); intro w38 hw; have n0_ : Aside0 (Kd.S k43 43 w38 w.heap.size (fun k_ => some k_ ≠ (.slice Ao37 t414.length co37 : Value).ownBlock ∧ k_ ≠ gb418) u5 x5_1) := ⟨(by rw [hw]; exact (by (with_reducible repeat (first | apply Kd.S_alloc  | apply Kd.S_drewN  | apply Kd.S_drew)); exact Kd.S_mono (S_far6 (Kd.S_mono HO_5.out (fun k_ hk => (⟨hk, hk.2⟩ : _ ∧ k_ ≠ gb418))) (fun _ hk => hk.2)) (fun _ hk => ⟨hk.1.1.2, hk.1.2⟩)))⟩; have n1_ : Aside0 (Kd.R Kd.string 9 w38 w.heap.size (fun _ => True) (.slice Ao37 t414.length co37) t414) := ⟨(by rw [hw]; exact (by (with_reducible repeat (first | apply Kd.R_alloc  | apply Kd.R_drewN  | apply Kd.R_drew)); exact Kd.R_mono (R_far6 (Kd.R_types HO416.out BK418.out (by decide)) (fun _ hk => hk.2)) (fun _ hk => trivial)))⟩; have n2_ : Aside0 (w38.heap[gb418]? = some (.cells #[.string t409, .string t410, .int .i64 t411, .bool t412, .string t413, .slice Ao37 t414.length co37] 43 (0, 0))) := ⟨(by rw [hw]; exact (put6_ BK418.out _ _ _ _ _ _))⟩; have n3_ : Aside0 (Below w.heap.size w w38) := ⟨(by rw [hw]; exact (by (repeat (with_reducible first | exact HB.out | refine below_set ?_ GE418.out))))⟩; clear hw HO_5; clear HO416 BK418 HB; have HO_5 := n0_; have HO416 := n1_; have BK418 := n2_; have HB := n3_; clear n0_ n1_ n2_ n3_; obtain ⟨hcz39_0, hcz39_1, hcz39_2, hcz39_3, hcz39_4, hcz39_5, hfz39_0, hfz39_1, hfz39_2, hfz39_3, hfz39_4, hfz39_5⟩ := cz6_ BK418.out; obtain ⟨Ao40, co40, eo40⟩ := Kd.S_slice HO_5.out; subst eo40) | ((with_reducible refine gate_callee (f := 30) rfl ?_); refine goesL_ (some 60) rfl rfl Tryz.func30 (by kernel_rfl) rfl #[.slice Ao40 x5_1.length co40, .string t409] rfl (by ((try simp only [List.map_toArray, List.map_cons, List.map_nil]); (rfl))) ?_; (with_reducible refine (wicketref11_Find.calls kj11 (fun k_ => (some k_ ≠ (.slice Ao37 t414.length co37 : Value).ownBlock ∧ k_ ≠ gb418)) _ _ x5_1 t409 t419 t420 t421 t422 t423 t424 false _ ?side1 A19.out).mono ?_); (case side1 => exact Kd.S_V (HO_5.out)); rintro e w41 ⟨v425, rfl, ho0, hb⟩; refine ⟨_, rfl, ?_⟩; replace HO_5 := Aside0.mk (Kd.S_below HO_5.out hb); have HO426 := Aside0.mk (Kd.V_lower (Kd.V_mono (ok' := fun k_ => some k_ ≠ (.slice Ao37 t414.length co37 : Value).ownBlock ∧ k_ ≠ gb418) ho0 (fun k_ hk_ => ⟨Or.elim hk_ (fun hs_ => hs_.1) (fun hn_ => (Kd.fresh' (Kd.R_lt HO416.out) k_ hn_)), Or.elim hk_ (fun hs_ => hs_.2) (fun hn_ => (Kd.freshB (g := gb418) (o := .cells #[.string t409, .string t410, .int .i64 t411, .bool t412, .string t413, .slice Ao37 t414.length co37] 43 (0, 0)) BK418.out k_ hn_))⟩)) (below_size HB.out)); replace HO416 := Aside0.mk (Kd.R_below HO416.out hb); replace BK418 := Aside0.mk (blk_below (g := gb418) (o := .cells #[.string t409, .string t410, .int .i64 t411, .bool t412, .string t413, .slice Ao37 t414.length co37] 43 (0, 0)) BK418.out hb); replace HB := Aside0.mk (below_step HB.out hb); clear hb ho0) | ((with_reducible refine gate_dst (N := 12) rfl ?_); refine box_event ?hg (N := 12) ?hd (cs := #[.string (⟨#[]⟩ : ByteArray), .string (⟨#[]⟩ : ByteArray), .int .i64 0, .bool false, .string (⟨#[]⟩ : ByteArray), .slice none 0 0]) (t := 43) ?hr ?_; (case hd => rfl); (case hg => rfl); (case hr => (go_simp; done)); intro gb428 hg w42 hbox hb; replace HO_5 := Aside0.mk (Kd.S_below (Kd.S_elderB HO_5.out gb428 (Nat.le_of_eq hg.symm)) hb); replace HO416 := Aside0.mk (Kd.R_below HO416.out hb); replace HO426 := Aside0.mk (Kd.V_below (Kd.V_elderB HO426.out gb428 (Nat.le_of_eq hg.symm)) hb); have BK428 := Aside0.mk hbox; have GW428 := Aside0.mk ((by rw [hg]; exact (below_size HB.out) : w.heap.size ≤ gb428)); have GE428 := Aside0.mk ((by rw [hg]; exact (below_size HB.out) : w.heap.size ≤ gb428)); replace HB := Aside0.mk (below_step HB.out hb); have NB418_428 := Aside0.mk ((by rw [hg]; exact Nat.ne_of_lt (blk_lt (g := gb418) (o := .cells #[.string t409, .string t410, .int .i64 t411, .bool t412, .string t413, .slice Ao37 t414.length co37] 43 (0, 0)) BK418.out) : gb418 ≠ gb428)); have NB428_418 := Aside0.mk ((by rw [hg]; exact Nat.ne_of_gt (blk_lt (g := gb418) (o := .cells #[.string t409, .string t410, .int .i64 t411, .bool t412, .string t413, .slice Ao37 t414.length co37] 43 (0, 0)) BK418.out) : gb428 ≠ gb418)); replace BK418 := Aside0.mk (blk_below (g := gb418) (o := .cells #[.string t409, .string t410, .int .i64 t411, .bool t412, .string t413, .slice Ao37 t414.length co37] 43 (0, 0)) BK418.out hb); clear hb hbox hg; have hnb43 := NB428_418.out; have hnc43 := NB418_428.out; obtain ⟨hcz44_0, hcz44_1, hcz44_2, hcz44_3, hcz44_4, hcz44_5, hfz44_0, hfz44_1, hfz44_2, hfz44_3, hfz44_4, hfz44_5⟩ := cz6_ BK428.out; obtain ⟨Ao45, co45, eo45⟩ := Kd.V_slice HO426.out; subst eo45))
                           go_ret3
                           exact ⟨_, rfl, by (exact Kd.S_nil _ _ _ _ _), by (repeat (with_reducible first | exact HB.out | refine below_set ?_ GE428.out))⟩
                         · rw [if_neg c33] at H
                           have c33b0 : ((x5_1.length : Int) == 256) = false := beq_eq_false_iff_ne.mpr c33
                           have c33b1 : ((x5_1.length : Int) != 256) = true := bne_iff_ne.mpr c33
                           by_cases c46 : x5_1.length < 1599289640401
                           · rw [if_pos c46] at H
                             have LMc46 := Aside0.mk c46
                             clear c46
                             obtain ⟨y429, hy429⟩ : ∃ y_ : List (S43), y_ = (x5_1 ++ [(⟨t409, t410, t411, t412, t413, t414⟩ : S43)]) := ⟨_, rfl⟩
                             replace H : (wicketref11_Parse.l0 kj11 a0 y429 (wrap64 (x6_1 + 1)) (wrap64 (x8_1 + 1)) (wrap64 (x8_1 + 1))) = some (r1, r2, r3) := by (rw [hy429]; with_reducible exact H)
                             have Ny429 := Aside0.mk hy429
                             clear hy429
                             have H' := Aside0.mk H
                             clear H
                             go_wp2_with (first | ((with_reducible refine gate_callee (f := 60) rfl ?_); refine goesL_ (some 50) rfl rfl Tryz.func60 (by kernel_rfl) rfl #[.string (a0.extract (x7_1 : Int).toNat (x8_1 : Int).toNat)] rfl (by ((try simp only [List.map_toArray, List.map_cons, List.map_nil]); (rfl))) ?_; (with_reducible refine (wicketref11_line.calls (a0.extract (x7_1 : Int).toNat (x8_1 : Int).toNat) t409 t410 t411 t412 t413 t414 true _ A17.out).mono ?_); rintro e w47 ⟨v415, rfl, ho0, hb⟩; refine ⟨_, rfl, ?_⟩; replace HO_5 := Aside0.mk (Kd.S_elder' HO_5.out (Kd.R_base ho0) hb); have HO416 := Aside0.mk (Kd.R_lower ho0 (below_size HB.out)); replace HB := Aside0.mk (below_step HB.out hb); clear hb ho0) | ((with_reducible refine gate_dst (N := 10) rfl ?_); refine box_event ?hg (N := 10) ?hd (cs := #[.string (⟨#[]⟩ : ByteArray), .string (⟨#[]⟩ : ByteArray), .int .i64 0, .bool false, .string (⟨#[]⟩ : ByteArray), .slice none 0 0]) (t := 43) ?hr ?_; (case hd => rfl); (case hg => rfl); (case hr => (go_simp; done)); intro gb418 hg w48 hbox hb; replace HO_5 := Aside0.mk (Kd.S_below (Kd.S_elderB HO_5.out gb418 (Nat.le_of_eq hg.symm)) hb); replace HO416 := Aside0.mk (Kd.R_below HO416.out hb); have BK418 := Aside0.mk hbox; have GW418 := Aside0.mk ((by rw [hg]; exact (below_size HB.out) : w.heap.size ≤ gb418)); have GE418 := Aside0.mk ((by rw [hg]; exact (below_size HB.out) : w.heap.size ≤ gb418)); replace HB := Aside0.mk (below_step HB.out hb); clear hb hbox hg; obtain ⟨hcz49_0, hcz49_1, hcz49_2, hcz49_3, hcz49_4, hcz49_5, hfz49_0, hfz49_1, hfz49_2, hfz49_3, hfz49_4, hfz49_5⟩ := cz6_ BK418.out; obtain ⟨Ao50, co50, eo50⟩ := Kd.R_slice HO416.out; subst eo50) | ((with_reducible refine gate_store (t := 43) (p := 10) rfl ?_); refine store_event (t := 43) (p := 10) (v := ?vo_w51) (w1 := ((((((w48.setCell ⟨gb418, 0, none⟩ (.string t409)).setCell ⟨gb418, 1, none⟩ (.string t410)).setCell ⟨gb418, 2, none⟩ (.int .i64 t411)).setCell ⟨gb418, 3, none⟩ (.bool t412)).setCell ⟨gb418, 4, none⟩ (.string t413)).setCell ⟨gb418, 5, none⟩ (.slice Ao50 t414.length co50))) ?hg ?ho ?hn ?hr ?_; (case ho => rfl); (case hg => rfl); (case hn => rfl); (case hr => (go_simp; done)); intro w51 hw; have n0_ : Aside0 (Kd.S k43 43 w51 w.heap.size (fun k_ => some k_ ≠ (.slice Ao50 t414.length co50 : Value).ownBlock ∧ k_ ≠ gb418) u5 x5_1) := ⟨(by rw [hw]; exact (by (with_reducible repeat (first | apply Kd.S_alloc  | apply Kd.S_drewN  | apply Kd.S_drew)); exact Kd.S_mono (S_far6 (Kd.S_mono HO_5.out (fun k_ hk => (⟨hk, hk.2⟩ : _ ∧ k_ ≠ gb418))) (fun _ hk => hk.2)) (fun _ hk => ⟨hk.1.1.2, hk.1.2⟩)))⟩; have n1_ : Aside0 (Kd.R Kd.string 9 w51 w.heap.size (fun _ => True) (.slice Ao50 t414.length co50) t414) := ⟨(by rw [hw]; exact (by (with_reducible repeat (first | apply Kd.R_alloc  | apply Kd.R_drewN  | apply Kd.R_drew)); exact Kd.R_mono (R_far6 (Kd.R_types HO416.out BK418.out (by decide)) (fun _ hk => hk.2)) (fun _ hk => trivial)))⟩; have n2_ : Aside0 (w51.heap[gb418]? = some (.cells #[.string t409, .string t410, .int .i64 t411, .bool t412, .string t413, .slice Ao50 t414.length co50] 43 (0, 0))) := ⟨(by rw [hw]; exact (put6_ BK418.out _ _ _ _ _ _))⟩; have n3_ : Aside0 (Below w.heap.size w w51) := ⟨(by rw [hw]; exact (by (repeat (with_reducible first | exact HB.out | refine below_set ?_ GE418.out))))⟩; clear hw HO_5; clear HO416 BK418 HB; have HO_5 := n0_; have HO416 := n1_; have BK418 := n2_; have HB := n3_; clear n0_ n1_ n2_ n3_; obtain ⟨hcz52_0, hcz52_1, hcz52_2, hcz52_3, hcz52_4, hcz52_5, hfz52_0, hfz52_1, hfz52_2, hfz52_3, hfz52_4, hfz52_5⟩ := cz6_ BK418.out; obtain ⟨Ao53, co53, eo53⟩ := Kd.S_slice HO_5.out; subst eo53) | ((with_reducible refine gate_callee (f := 30) rfl ?_); refine goesL_ (some 60) rfl rfl Tryz.func30 (by kernel_rfl) rfl #[.slice Ao53 x5_1.length co53, .string t409] rfl (by ((try simp only [List.map_toArray, List.map_cons, List.map_nil]); (rfl))) ?_; (with_reducible refine (wicketref11_Find.calls kj11 (fun k_ => (some k_ ≠ (.slice Ao50 t414.length co50 : Value).ownBlock ∧ k_ ≠ gb418)) _ _ x5_1 t409 t419 t420 t421 t422 t423 t424 false _ ?side1 A19.out).mono ?_); (case side1 => exact Kd.S_V (HO_5.out)); rintro e w54 ⟨v425, rfl, ho0, hb⟩; refine ⟨_, rfl, ?_⟩; replace HO_5 := Aside0.mk (Kd.S_below HO_5.out hb); have HO426 := Aside0.mk (Kd.V_lower (Kd.V_mono (ok' := fun k_ => some k_ ≠ (.slice Ao50 t414.length co50 : Value).ownBlock ∧ k_ ≠ gb418) ho0 (fun k_ hk_ => ⟨Or.elim hk_ (fun hs_ => hs_.1) (fun hn_ => (Kd.fresh' (Kd.R_lt HO416.out) k_ hn_)), Or.elim hk_ (fun hs_ => hs_.2) (fun hn_ => (Kd.freshB (g := gb418) (o := .cells #[.string t409, .string t410, .int .i64 t411, .bool t412, .string t413, .slice Ao50 t414.length co50] 43 (0, 0)) BK418.out k_ hn_))⟩)) (below_size HB.out)); replace HO416 := Aside0.mk (Kd.R_below HO416.out hb); replace BK418 := Aside0.mk (blk_below (g := gb418) (o := .cells #[.string t409, .string t410, .int .i64 t411, .bool t412, .string t413, .slice Ao50 t414.length co50] 43 (0, 0)) BK418.out hb); replace HB := Aside0.mk (below_step HB.out hb); clear hb ho0) | ((with_reducible refine gate_dst (N := 12) rfl ?_); refine box_event ?hg (N := 12) ?hd (cs := #[.string (⟨#[]⟩ : ByteArray), .string (⟨#[]⟩ : ByteArray), .int .i64 0, .bool false, .string (⟨#[]⟩ : ByteArray), .slice none 0 0]) (t := 43) ?hr ?_; (case hd => rfl); (case hg => rfl); (case hr => (go_simp; done)); intro gb428 hg w55 hbox hb; replace HO_5 := Aside0.mk (Kd.S_below (Kd.S_elderB HO_5.out gb428 (Nat.le_of_eq hg.symm)) hb); replace HO416 := Aside0.mk (Kd.R_below HO416.out hb); replace HO426 := Aside0.mk (Kd.V_below (Kd.V_elderB HO426.out gb428 (Nat.le_of_eq hg.symm)) hb); have BK428 := Aside0.mk hbox; have GW428 := Aside0.mk ((by rw [hg]; exact (below_size HB.out) : w.heap.size ≤ gb428)); have GE428 := Aside0.mk ((by rw [hg]; exact (below_size HB.out) : w.heap.size ≤ gb428)); replace HB := Aside0.mk (below_step HB.out hb); have NB418_428 := Aside0.mk ((by rw [hg]; exact Nat.ne_of_lt (blk_lt (g := gb418) (o := .cells #[.string t409, .string t410, .int .i64 t411, .bool t412, .string t413, .slice Ao50 t414.length co50] 43 (0, 0)) BK418.out) : gb418 ≠ gb428)); have NB428_418 := Aside0.mk ((by rw [hg]; exact Nat.ne_of_gt (blk_lt (g := gb418) (o := .cells #[.string t409, .string t410, .int .i64 t411, .bool t412, .string t413, .slice Ao50 t414.length co50] 43 (0, 0)) BK418.out) : gb428 ≠ gb418)); replace BK418 := Aside0.mk (blk_below (g := gb418) (o := .cells #[.string t409, .string t410, .int .i64 t411, .bool t412, .string t413, .slice Ao50 t414.length co50] 43 (0, 0)) BK418.out hb); clear hb hbox hg; have hnb56 := NB428_418.out; have hnc56 := NB418_428.out; obtain ⟨hcz57_0, hcz57_1, hcz57_2, hcz57_3, hcz57_4, hcz57_5, hfz57_0, hfz57_1, hfz57_2, hfz57_3, hfz57_4, hfz57_5⟩ := cz6_ BK428.out; obtain ⟨Ao58, co58, eo58⟩ := Kd.V_slice HO426.out; subst eo58) | ((with_reducible refine gate_store (t := 43) (p := 12) rfl ?_); refine store_event (t := 43) (p := 12) (v := ?vo_w59) (w1 := ((((((w55.setCell ⟨gb428, 0, none⟩ (.string t419)).setCell ⟨gb428, 1, none⟩ (.string t420)).setCell ⟨gb428, 2, none⟩ (.int .i64 t421)).setCell ⟨gb428, 3, none⟩ (.bool t422)).setCell ⟨gb428, 4, none⟩ (.string t423)).setCell ⟨gb428, 5, none⟩ (.slice Ao58 t424.length co58))) ?hg ?ho ?hn ?hr ?_; (case ho => rfl); (case hg => rfl); (case hn => rfl); (case hr => (go_simp; done)); intro w59 hw; have n0_ : Aside0 (Kd.S k43 43 w59 w.heap.size (fun k_ => some k_ ≠ (.slice Ao50 t414.length co50 : Value).ownBlock ∧ k_ ≠ gb418 ∧ k_ ≠ gb428) (.slice Ao53 x5_1.length co53) x5_1) := ⟨(by rw [hw]; exact (by (with_reducible repeat (first | apply Kd.S_alloc  | apply Kd.S_drewN  | apply Kd.S_drew)); exact Kd.S_mono (S_far6 (Kd.S_mono HO_5.out (fun k_ hk => (⟨hk, hk.2⟩ : _ ∧ k_ ≠ gb428))) (fun _ hk => hk.2)) (fun _ hk => ⟨hk.1.1.1, ⟨hk.1.1.2, hk.1.2⟩⟩)))⟩; have n1_ : Aside0 (Kd.R Kd.string 9 w59 w.heap.size (fun _ => True) (.slice Ao50 t414.length co50) t414) := ⟨(by rw [hw]; exact (by (with_reducible repeat (first | apply Kd.R_alloc  | apply Kd.R_drewN  | apply Kd.R_drew)); exact Kd.R_mono (R_far6 (Kd.R_types HO416.out BK428.out (by decide)) (fun _ hk => hk.2)) (fun _ hk => trivial)))⟩; have n2_ : Aside0 (Kd.V Kd.string 9 w59 w.heap.size (fun k_ => some k_ ≠ (.slice Ao50 t414.length co50 : Value).ownBlock ∧ k_ ≠ gb418 ∧ k_ ≠ gb428) (.slice Ao58 t424.length co58) t424) := ⟨(by rw [hw]; exact (by (with_reducible repeat (first | apply Kd.V_alloc  | apply Kd.V_drewN  | apply Kd.V_drew)); exact Kd.V_mono (V_far6 (Kd.V_mono HO426.out (fun k_ hk => (⟨hk, hk.2⟩ : _ ∧ k_ ≠ gb428))) (fun _ hk => hk.2)) (fun _ hk => ⟨hk.1.1.1, ⟨hk.1.1.2, hk.1.2⟩⟩)))⟩; have n3_ : Aside0 (w59.heap[gb418]? = some (.cells #[.string t409, .string t410, .int .i64 t411, .bool t412, .string t413, .slice Ao50 t414.length co50] 43 (0, 0))) := ⟨(by rw [hw]; exact (by (with_reducible repeat (first | refine blk_drewN ?_ _  | refine blk_drew ?_  | refine blk_alloc ?_ _)); refine blk_far ?_ NB418_428.out _; (with_reducible repeat (first | refine blk_drewN ?_ _  | refine blk_drew ?_  | refine blk_alloc ?_ _)); refine blk_far ?_ NB418_428.out _; (with_reducible repeat (first | refine blk_drewN ?_ _  | refine blk_drew ?_  | refine blk_alloc ?_ _)); refine blk_far ?_ NB418_428.out _; (with_reducible repeat (first | refine blk_drewN ?_ _  | refine blk_drew ?_  | refine blk_alloc ?_ _)); refine blk_far ?_ NB418_428.out _; (with_reducible repeat (first | refine blk_drewN ?_ _  | refine blk_drew ?_  | refine blk_alloc ?_ _)); refine blk_far ?_ NB418_428.out _; (with_reducible repeat (first | refine blk_drewN ?_ _  | refine blk_drew ?_  | refine blk_alloc ?_ _)); refine blk_far ?_ NB418_428.out _; (with_reducible repeat (first | refine blk_drewN ?_ _  | refine blk_drew ?_  | refine blk_alloc ?_ _)); exact BK418.out))⟩; have n4_ : Aside0 (w59.heap[gb428]? = some (.cells #[.string t419, .string t420, .int .i64 t421, .bool t422, .string t423, .slice Ao58 t424.length co58] 43 (0, 0))) := ⟨(by rw [hw]; exact (put6_ BK428.out _ _ _ _ _ _))⟩; have n5_ : Aside0 (Below w.heap.size w w59) := ⟨(by rw [hw]; exact (by (repeat (with_reducible first | exact HB.out | refine below_set ?_ GE428.out))))⟩; clear hw HO_5; clear HO416 HO426; clear BK418 BK428 HB; have HO_5 := n0_; have HO416 := n1_; have HO426 := n2_; have BK418 := n3_; have BK428 := n4_; have HB := n5_; clear n0_ n1_ n2_ n3_ n4_ n5_; obtain ⟨hcz60_0, hcz60_1, hcz60_2, hcz60_3, hcz60_4, hcz60_5, hfz60_0, hfz60_1, hfz60_2, hfz60_3, hfz60_4, hfz60_5⟩ := cz6_ BK418.out) | ((with_reducible refine gate_builtin (b := .append) (xs := #[.tmp 69, .tmp 71]) rfl ?_); at_builtin; refine Kd.S_append k43 (w0 := w) w.heap.size rfl (.tmp 69) (.tmp 71) 29 43 (.agg #[(.string ⟨#[]⟩), (.string ⟨#[]⟩), (.int .i64 0), (.bool false), (.string ⟨#[]⟩), (.slice none 0 0)]) 88 rfl Tryz.underlying29 info43 rfl (by decide) (by omega) (.slice Ao53 x5_1.length co53) x5_1 (⟨t409, t410, t411, t412, t413, t414⟩ : S43) [.string t409, .string t410, .int .i64 t411, .bool t412, .string t413, .slice Ao50 t414.length co50] (fun k_ => k_ ≠ gb418 ∧ k_ ≠ gb428) (fun k_ => some k_ = (.slice Ao50 t414.length co50 : Value).ownBlock) rfl rfl ?aP (fun k_ hk_ => ((Kd.R_mono (ok' := fun k_ => ((fun k_ => k_ ≠ gb418 ∧ k_ ≠ gb428)) k_ ∧ some k_ ≠ (.slice Ao53 x5_1.length co53 : Value).ownBlock) (Kd.R_types (Kd.R_types (Kd.R_apart' (HO416.out) (Kd.S_typed HO_5.out) (by decide)) BK418.out (by decide)) BK428.out (by decide)) (fun k_ hk => ⟨⟨hk.1.2, hk.2⟩, hk.1.1.2⟩))).1 k_ hk_.symm) ?aF ?aO ?aB ?aS ?aL ?_; (case aP => exact k43_mkM _ _ _ (⟨t409, t410, t411, t412, t413, t414⟩ : S43) (Kd.R_mono (Kd.R_tight rfl (Kd.R_mono (ok' := fun k_ => ((fun k_ => k_ ≠ gb418 ∧ k_ ≠ gb428)) k_ ∧ some k_ ≠ (.slice Ao53 x5_1.length co53 : Value).ownBlock) (Kd.R_types (Kd.R_types (Kd.R_apart' (HO416.out) (Kd.S_typed HO_5.out) (by decide)) BK418.out (by decide)) BK428.out (by decide)) (fun k_ hk => ⟨⟨hk.1.2, hk.2⟩, hk.1.1.2⟩))) (fun _ h_ => h_))); (case aB => exact HB.out); (case aF => exact (fun k_ hk => ⟨Kd.freshB (g := gb418) (o := .cells #[.string t409, .string t410, .int .i64 t411, .bool t412, .string t413, .slice Ao50 t414.length co50] 43 (0, 0)) BK418.out k_ hk, Kd.freshB (g := gb428) (o := .cells #[.string t419, .string t420, .int .i64 t421, .bool t422, .string t423, .slice Ao58 t424.length co58] 43 (0, 0)) BK428.out k_ hk⟩)); (case aO => exact (by (with_reducible repeat (first | apply Kd.S_alloc  | apply Kd.S_drewN  | apply Kd.S_drew)); exact Kd.S_mono HO_5.out (fun k_ hk => ⟨⟨hk.2.1, hk.2.2⟩, fun e_ => hk.1 e_⟩))); (case aS => exact (below_size HB.out)); (case aL => have := LMc46.out; omega); intro v430 w61 ho hb hg hat; rw [← Ny429.out] at ho; have n0_ := Aside0.mk (blk_grown (g := gb418) (o := .cells #[.string t409, .string t410, .int .i64 t411, .bool t412, .string t413, .slice Ao50 t414.length co50] 43 (0, 0)) BK418.out hg (Kd.S_away HO_5.out (fun _ hk => hk.2.1))); have n1_ := Aside0.mk (blk_grown (g := gb428) (o := .cells #[.string t419, .string t420, .int .i64 t421, .bool t422, .string t423, .slice Ao58 t424.length co58] 43 (0, 0)) BK428.out hg (Kd.S_away HO_5.out (fun _ hk => hk.2.2))); have n2_ := Aside0.mk hb; have n3_ := Aside0.mk ho; clear BK418 BK428; clear HB HO_5 HO416; have BK418 := n0_; have BK428 := n1_; have HB := n2_; have HO431 := n3_; clear n0_ n1_ n2_ n3_; clear ho hb hg hat))
                             go_roundg kj11
                             case measure => have := HK1.out; have := HJ3.out; have := HJ11.out; omega
                             case rel => exact ⟨(y429), ((wrap64 (x6_1 + 1))), ((wrap64 (x8_1 + 1))), (wrap64 (x8_1 + 1)), rfl, rfl, rfl, H', ⟨by have := HK1.out; have := HJ3.out; have := HJ11.out; omega⟩, ⟨by (with_reducible repeat (first | apply Kd.S_alloc  | apply Kd.S_drewN  | apply Kd.S_drew)); exact Kd.S_mono HO431.out (fun _ hk => trivial)⟩, ⟨HB.out⟩⟩
                           · rw [if_neg c46] at H
                             exact absurd H (by simp)
                     · replace c18 := Bool.eq_false_iff.mpr c18
                       subst c18
                       have H1 : (some (([] : List (S43)), 110, (wrap64 (x6_1 + 1)))) = some (r1, r2, r3) := by rw [if_neg (show ¬ (false = true) by decide)] at H; exact H
                       clear H
                       have H := H1
                       clear H1
                       simp only [Option.some.injEq, Prod.mk.injEq] at H
                       obtain ⟨rfl, rfl, rfl⟩ := H
                       go_wp2_with (first | ((with_reducible refine gate_callee (f := 60) rfl ?_); refine goesL_ (some 50) rfl rfl Tryz.func60 (by kernel_rfl) rfl #[.string (a0.extract (x7_1 : Int).toNat (x8_1 : Int).toNat)] rfl (by ((try simp only [List.map_toArray, List.map_cons, List.map_nil]); (rfl))) ?_; (with_reducible refine (wicketref11_line.calls (a0.extract (x7_1 : Int).toNat (x8_1 : Int).toNat) t409 t410 t411 t412 t413 t414 false _ A17.out).mono ?_); rintro e w62 ⟨v415, rfl, ho0, hb⟩; refine ⟨_, rfl, ?_⟩; replace HO_5 := Aside0.mk (Kd.S_elder' HO_5.out (Kd.R_base ho0) hb); have HO416 := Aside0.mk (Kd.R_lower ho0 (below_size HB.out)); replace HB := Aside0.mk (below_step HB.out hb); clear hb ho0) | ((with_reducible refine gate_dst (N := 10) rfl ?_); refine box_event ?hg (N := 10) ?hd (cs := #[.string (⟨#[]⟩ : ByteArray), .string (⟨#[]⟩ : ByteArray), .int .i64 0, .bool false, .string (⟨#[]⟩ : ByteArray), .slice none 0 0]) (t := 43) ?hr ?_; (case hd => rfl); (case hg => rfl); (case hr => (go_simp; done)); intro gb418 hg w63 hbox hb; replace HO_5 := Aside0.mk (Kd.S_below (Kd.S_elderB HO_5.out gb418 (Nat.le_of_eq hg.symm)) hb); replace HO416 := Aside0.mk (Kd.R_below HO416.out hb); have BK418 := Aside0.mk hbox; have GW418 := Aside0.mk ((by rw [hg]; exact (below_size HB.out) : w.heap.size ≤ gb418)); have GE418 := Aside0.mk ((by rw [hg]; exact (below_size HB.out) : w.heap.size ≤ gb418)); replace HB := Aside0.mk (below_step HB.out hb); clear hb hbox hg; obtain ⟨hcz64_0, hcz64_1, hcz64_2, hcz64_3, hcz64_4, hcz64_5, hfz64_0, hfz64_1, hfz64_2, hfz64_3, hfz64_4, hfz64_5⟩ := cz6_ BK418.out; obtain ⟨Ao65, co65, eo65⟩ := Kd.R_slice HO416.out; subst eo65))
                       go_ret3
                       exact ⟨_, rfl, by (exact Kd.S_nil _ _ _ _ _), by (repeat (with_reducible first | exact HB.out | refine below_set ?_ GE418.out))⟩
               · rw [if_neg c11] at H
                 exact absurd H (by simp)
             · rw [if_neg c10] at H
               exact absurd H (by simp)
           · rw [if_neg c9] at H
             exact absurd H (by simp)
     · rw [if_neg c3] at H
       have c3b0 : decide (x8_1 ≤ (a0.size : Int)) = false := decide_eq_false c3
       clear c3
       simp only [Option.some.injEq, Prod.mk.injEq] at H
       obtain ⟨rfl, rfl, rfl⟩ := H
       go_wp2
       go_ret3
       exact ⟨_, rfl, by ((with_reducible repeat (first | apply Kd.S_alloc  | apply Kd.S_drewN  | apply Kd.S_drew)); exact HO_5.out), by (with_reducible exact HB.out)⟩
end Go.Proofs.YtmimipgmhgalaaaGreatDoor.PAll
end
section
namespace Go.Proofs.YtmimipgmhgalaaaGreatDoor.Pure
open Go.RowKit Go.Proofs.YtmimipgmhgalaaaGreatDoorW.PrintWords Go.Proofs.YtmimipgmhgalaaaGreatDoor.Plain Go.Proofs.YtmimipgmhgalaaaGreatDoor.Spec Go.Proofs.YtmimipgmhgalaaaGreatDoor.PAll
set_option linter.unusedSimpArgs false
set_option linter.unusedVariables false
theorem parseL_sizes (W : Nat) : ∀ (ps : List (List UInt8)) (i : Nat) (acc : List (ByteArray × ByteArray)), (∀ p ∈ ps, p.length ≤ W) → (∀ x ∈ acc, x.1.size ≤ W ∧ x.2.size ≤ W) → ∀ x ∈ (parseL ps i acc).1, x.1.size ≤ W ∧ x.2.size ≤ W
  | [], i, acc, _, ha => ha
  | p :: r, i, acc, hp, ha => by
    rw [parseL_cons]
    have hr : ∀ q ∈ r, q.length ≤ W := fun q hq => hp q (List.mem_cons_of_mem _ hq)
    by_cases h1 : p = []
    · rw [if_pos h1]; exact parseL_sizes W r _ _ hr ha
    · rw [if_neg h1]
      by_cases h2 : acc.length = 64
      · rw [if_pos h2]; intro x hx; cases hx
      · rw [if_neg h2]
        by_cases h3 : (pairP i p).2.1 = 0
        · rw [if_pos h3]
          refine parseL_sizes W r _ _ hr fun x hx => ?_
          rcases List.mem_append.1 hx with hx | hx
          · exact ha x hx
          · rw [List.mem_singleton] at hx
            subst hx
            have hc := cutL_len 61 p
            have hpw := hp p List.mem_cons_self
            have u1 := unescL_place (cutL 61 p).1.length (cutL 61 p).1 (Nat.le_refl _) 0 []
            have u2 := unescL_place (cutL 61 p).2.1.length (cutL 61 p).2.1 (Nat.le_refl _) 0 []
            unfold pairP
            simp only [List.length_nil] at u1 u2
            split
            · split
              · simp only [bs_size]; omega
              · exact ⟨Nat.zero_le _, Nat.zero_le _⟩
            · exact ⟨Nat.zero_le _, Nat.zero_le _⟩
        · rw [if_neg h3]; intro x hx; cases hx
theorem parse_sizes (s : List UInt8) : ∀ x ∈ (parse s).1, x.1.size ≤ 16384 ∧ x.2.size ≤ 16384 := by
  by_cases h : s.length > 16384
  · unfold parse; rw [if_pos h]; simp
  · unfold parse; rw [if_neg h]
    refine parseL_sizes 16384 _ _ _ (fun p hp => ?_) (by simp)
    have := widthL_mem _ _ hp
    rw [splitL_width] at this; omega
theorem lastV_size (n : ByteArray) (s : List UInt8) : (lastV n ((parse s).1.map mk34) ⟨#[]⟩).size ≤ 16384 := by
  rcases lastV_mem n ((parse s).1.map mk34) ⟨#[]⟩ with h | ⟨p, hp, hn, h⟩
  · rw [h]; decide
  · rw [h]; obtain ⟨q, hq, rfl⟩ := List.mem_map.1 hp; exact (parse_sizes s q hq).2
theorem sumj_len (l : List ByteArray) : (joinedL l).length ≤ (l.map fun y => (y.size + 1)).sum := by
  have h2 : ∀ r : List ByteArray, (Lib.joinTail [32] (r.map (·.data.toList))).length ≤ (r.map fun y => (y.size + 1)).sum := by
    intro r
    induction r with
    | nil => simp [Lib.joinTail]
    | cons x r ih =>
      have e : (Lib.joinTail [32] ((x :: r).map (·.data.toList))).length = 1 + x.data.toList.length + (Lib.joinTail [32] (r.map (·.data.toList))).length := by
        unfold Lib.joinTail
        rw [List.map_cons, List.map_cons, List.flatten_cons, List.length_append, List.length_append]
        rfl
      have hx : x.data.toList.length = x.size := data_len _
      rw [e]
      simp only [List.map_cons, List.sum_cons]
      omega
  cases l with
  | nil => simp [joinedL, Lib.join_nil]
  | cons x r =>
    have h3 := h2 r
    have hx : x.data.toList.length = x.size := data_len _
    unfold joinedL
    rw [List.map_cons, Lib.join_cons, List.length_append]
    simp only [List.map_cons, List.sum_cons]
    omega
theorem sum_le_mul {α : Type} (g : α → Nat) (b : Nat) : ∀ l : List α, (∀ x ∈ l, g x ≤ b) → (l.map g).sum ≤ l.length * b
  | [], _ => by simp
  | x :: r, h => by
    have h1 := sum_le_mul g b r (fun y hy => h y (by simp [hy]))
    have h2 := h x (by simp)
    simp only [List.map_cons, List.sum_cons, List.length_cons, Nat.succ_mul]
    omega
theorem sL_len (v : ByteArray) : (sL v).length ≤ 32 := by unfold sL; rw [List.length_map]; exact scopesL_len _
theorem sL_join (a : ByteArray) : (joinedL (sL a)).length ≤ 10000 := by
  by_cases h : (scopesL a.data.toList).2 = 0
  · have hf := (scopesL_facts _ h).2
    have h1 := sumj_len (sL a)
    have h2 := sum_le_mul (fun y : ByteArray => y.size + 1) 257 (sL a) (fun x hx => by
      unfold sL at hx
      obtain ⟨p, hp, rfl⟩ := List.mem_map.1 hx
      rw [bs_size]
      have := (hf p hp).2
      omega)
    have h4 : (sL a).length * 257 ≤ 32 * 257 := Nat.mul_le_mul_right _ (sL_len a)
    omega
  · unfold sL
    rw [scopesL_err _ h]
    simp [joinedL, Lib.join_nil]
theorem ref_small (s : List UInt8) : smallB (refC ((parse s).1.map mk34)) = true := by
  have h1 := lastV_size nId s
  have h2 := lastV_size nSecret s
  have h3 := lastV_size nUrl s
  have h4 := sL_len (lastV nScope ((parse s).1.map mk34) ⟨#[]⟩)
  have h5 := sL_join (lastV nScope ((parse s).1.map mk34) ⟨#[]⟩)
  unfold smallB refC
  exact decide_eq_true ⟨Nat.le_trans h1 (by decide), Nat.le_trans h2 (by decide), Nat.le_trans h3 (by decide), Nat.le_trans h4 (by decide), Nat.le_trans h5 (by decide)⟩
theorem line_prog (p : List UInt8) (hp : p.length ≤ 65536) : ∃ c : ClT, client_parseLine.f (bs p) = some (flatC (c, (refLineS p).2)) ∧ ((refLineS p).2 = true → c = (refLineS p).1) := by
  unfold client_parseLine.f
  rw [if_pos (by rw [bs_size]; omega), bs_data]
  by_cases he : (parse p).2.1 = 0
  · rw [if_pos he]
    have hs := ref_small p
    obtain ⟨L, hL⟩ : ∃ L, (parse p).1.map mk34 = L := ⟨_, rfl⟩
    have hR : refLineS p = if refOkB L = true then (refC L, true) else (zC, false) := by
      unfold refLineS
      rw [hL]
      by_cases hk : refOkB L = true
      · rw [if_pos ⟨he, hk⟩, if_pos hk]
      · rw [if_neg (fun h => hk h.2), if_neg hk]
    rw [hL] at hs ⊢
    have hc : ∃ c b, lineL L [] zC = some (c, b) := by
      rcases lineL_good L [] zC with ⟨hg, he⟩ | ⟨hg, c', he⟩
      · rw [fold_ref L hg, if_pos hs] at he; exact ⟨_, _, he⟩
      · exact ⟨_, _, he⟩
    obtain ⟨c, b, hc⟩ := hc
    have hls := line_same L c b hc
    rw [hc, hR]
    cases b with
    | true => have := hls.1 rfl; rw [if_pos ((refOkB_iff L).2 this.1)]; exact ⟨c, rfl, fun _ => this.2⟩
    | false => have := hls.2 rfl; rw [if_neg (fun h => this ((refOkB_iff L).1 h))]; exact ⟨c, rfl, fun h => by cases h⟩
  · rw [if_neg he]
    have : refLineS p = (zC, false) := by unfold refLineS; rw [if_neg (fun h => he h.1)]
    rw [this]
    exact ⟨zC, rfl, fun h => by cases h⟩
theorem line_ref (p : List UInt8) (hp : p.length ≤ 65536) : wicketref11_line.f (bs p) = some (flatC (refLineS p)) := by
  unfold wicketref11_line.f
  rw [if_pos ⟨by rw [bs_size]; omega, by rw [bs_data]; exact ref_small p⟩, bs_data]
theorem refLine_sc (p : List UInt8) : (refLineS p).1.sc.length ≤ 32 := by
  unfold refLineS
  split
  · exact sL_len _
  · exact Nat.zero_le _
def mkC (c : ClT) : CC := ⟨c.i, c.s, c.gr, c.pg, c.u, c.sc⟩
def noteB : List UInt8 → Bool
  | [] => true
  | c :: _ => (c.toNat : Int) == 35
def regL : List (List UInt8) → Nat → List CC → List CC × Int × Int
  | [], _, acc => (acc, 0, 0)
  | p :: r, n, acc => if noteB p = true then regL r (n + 1) acc else if (refLineS p).2 = true then (if (foundC (refLineS p).1.i acc).2 = true then ([], 8, ((n + 1 : Nat) : Int)) else if acc.length = 256 then ([], 32, ((n + 1 : Nat) : Int)) else regL r (n + 1) (acc ++ [mkC (refLineS p).1])) else ([], 110, ((n + 1 : Nat) : Int))
theorem regL_cons (p : List UInt8) (r : List (List UInt8)) (n : Nat) (acc : List CC) : regL (p :: r) n acc = if noteB p = true then regL r (n + 1) acc else if (refLineS p).2 = true then (if (foundC (refLineS p).1.i acc).2 = true then ([], 8, ((n + 1 : Nat) : Int)) else if acc.length = 256 then ([], 32, ((n + 1 : Nat) : Int)) else regL r (n + 1) (acc ++ [mkC (refLineS p).1])) else ([], 110, ((n + 1 : Nat) : Int)) := rfl
theorem prog_lines (qs : List (List UInt8)) (hq : widthL qs ≤ 65537) : ∀ (m i : Nat) (acc : List CC), i + m = qs.length → acc.length ≤ 256 → (∀ x ∈ acc, x.f5.length ≤ 32) →
    Ev (fun k => client_Parse.l0 k acc (qs.map bs) (qs.length : Int) (i : Int)) (regL (qs.drop i) i acc) := by
  have hcw := count_width qs
  have hml : (qs.map bs).length = qs.length := List.length_map ..
  intro m
  induction m with
  | zero =>
    intro i acc hi ha h5
    rw [List.drop_eq_nil_of_le (by omega)]
    refine Ev.step (f := fun _ => some (acc, 0, 0)) (fun k => ?_) (Ev.now _)
    simp only [client_Parse.l0]
    rw [if_neg (by omega)]
  | succ m ih =>
    intro i acc hi ha h5
    have hlt : i < qs.length := by omega
    have hrd := rd_bs qs i hlt
    have hp := widthL_mem qs _ (List.getElem_mem hlt)
    rw [drop_cons qs i hlt, regL_cons]
    generalize qs[i] = p at *
    have hw : wrap64 ((i : Int) + 1) = ((i + 1 : Nat) : Int) := by rw [w64 (by omega) (by omega)]; rfl
    have hj : Ev (fun k => client_Parse.j1 k acc (i : Int) (bs p) (qs.map bs) (qs.length : Int) (i : Int) (noteB p)) (if noteB p = true then regL (qs.drop (i + 1)) (i + 1) acc else if (refLineS p).2 = true then (if (foundC (refLineS p).1.i acc).2 = true then ([], 8, ((i + 1 : Nat) : Int)) else if acc.length = 256 then ([], 32, ((i + 1 : Nat) : Int)) else regL (qs.drop (i + 1)) (i + 1) (acc ++ [mkC (refLineS p).1])) else ([], 110, ((i + 1 : Nat) : Int))) := by
      by_cases hn : noteB p = true
      · rw [if_pos hn]
        refine Ev.step (fun k => ?_) (ih (i + 1) acc (by omega) ha h5)
        simp only [client_Parse.j1]
        rw [if_pos hn, hw]
      · rw [if_neg hn]
        obtain ⟨c, hc, hcs⟩ := line_prog p (by omega)
        by_cases hk : (refLineS p).2 = true
        · rw [if_pos hk]
          have hcs := hcs hk
          subst hcs
          have hfe := find_ev acc ⟨by omega, fun x hx => by have := h5 x hx; omega⟩ (refLineS p).1.i
          refine Ev.step (f := fun k => (client_Find.f k acc (refLineS p).1.i).bind fun bt173 => (if bt173.2.2.2.2.2.2 = true then (some (([] : List CC), 8, ((i + 1 : Nat) : Int))) else (if (acc.length : Int) = 256 then (some (([] : List CC), 32, ((i + 1 : Nat) : Int))) else (if acc.length < 1599289640401 then (client_Parse.l0 k (acc ++ [mkC (refLineS p).1]) (qs.map bs) (qs.length : Int) ((i + 1 : Nat) : Int)) else (none))))) (fun k => ?_) ?_
          · simp only [client_Parse.j1]
            rw [if_neg hn, hc, Option.bind_some, hw]
            simp only [flatC, hk, if_true]
            rfl
          · refine Ev.bind hfe ?_
            by_cases h1 : (foundC (refLineS p).1.i acc).2 = true
            · rw [if_pos h1]
              exact Ev.pos h1 (Ev.now _)
            · rw [if_neg h1]
              refine Ev.neg h1 ?_
              by_cases h2 : acc.length = 256
              · rw [if_pos h2]
                exact Ev.pos (by omega) (Ev.now _)
              · rw [if_neg h2]
                refine Ev.neg (by omega) (Ev.pos (by omega) ?_)
                refine ih (i + 1) _ (by omega) (by rw [List.length_append, List.length_singleton]; omega) (fun x hx => ?_)
                rcases List.mem_append.1 hx with hx | hx
                · exact h5 x hx
                · rw [List.mem_singleton.1 hx]; exact refLine_sc p
        · rw [if_neg hk]
          refine Ev.step (f := fun _ => some (([] : List CC), 110, ((i + 1 : Nat) : Int))) (fun k => ?_) (Ev.now _)
          simp only [client_Parse.j1]
          rw [if_neg hn, hc, Option.bind_some, hw]
          simp only [flatC]
          exact if_neg hk
    refine Ev.step (fun k => ?_) hj
    simp only [client_Parse.l0]
    rw [if_pos (by omega), if_pos (by omega), if_pos (by rw [hml]; omega), hrd]
    cases p with
    | nil => rw [if_pos (by rw [bs_toList])]; rfl
    | cons x r =>
      rw [if_neg (by rw [bs_toList]; simp), if_pos (by rw [bs_size, List.length_cons]; omega)]
      have hb := bt_bs (x :: r) 0 (by simp)
      rw [show (((0 : Nat) : Int)) = 0 from rfl] at hb
      rw [hb]
      rfl
def regS (s : List UInt8) : List CC × Int × Int := if s.length > 65536 then ([], 1, 0) else regL (splitL 10 s) 0 []
theorem prog_ev (s : ByteArray) : Ev (fun k => client_Parse.f k s) (regS s.data.toList) := by
  unfold client_Parse.f regS
  rw [data_len]
  by_cases h : s.size > 65536
  · rw [if_pos h]
    exact Ev.pos (by omega) (Ev.now _)
  · rw [if_neg h]
    refine Ev.neg (by omega) ?_
    rw [split_eq s 10 (by omega)]
    have hw := splitL_width 10 s.data.toList
    rw [data_len] at hw
    have := prog_lines (splitL 10 s.data.toList) (by omega) (splitL 10 s.data.toList).length 0 [] (by omega) (by simp) (by simp)
    rw [List.drop_zero] at this
    simp only [Option.bind_some, List.length_map]
    exact this
def restN (l : List UInt8) (j : Nat) : List (List UInt8) := if j ≤ l.length then splitL 10 (l.drop j) else []
def resR (r : List CC × Int × Int) : List CR × Int × Int := (r.1.map toR, r.2.1, r.2.2)
theorem ref_lines (s : ByteArray) (hs : s.size ≤ 65536) : ∀ (m a i n : Nat) (acc : List CC), i + m = s.size + 1 → a ≤ i → (m = 0 → a = i) → n ≤ a → acc.length ≤ 256 → (∀ x ∈ acc, x.f5.length ≤ 32) → 10 ∉ (s.data.toList.drop a).take (i - a) →
    Ev (fun k => wicketref11_Parse.l0 k s (acc.map toR) (n : Int) (a : Int) (i : Int)) (resR (regL (restN s.data.toList a) n acc)) := by
  intro m
  induction m with
  | zero =>
    intro a i n acc hi hai h0 hn ha h5 _
    have := h0 rfl
    subst this
    refine Ev.step (f := fun _ => some (acc.map toR, 0, 0)) (fun k => ?_) (Ev.eq (Ev.now _) ?_)
    · simp only [wicketref11_Parse.l0]; rw [if_neg (by omega)]
    · unfold restN; rw [if_neg (by rw [data_len]; omega)]; rfl
  | succ m ih =>
    intro a i n acc hi hai _ hn ha h5 h10
    have hal : (acc.map toR).length = acc.length := List.length_map ..
    have hw : wrap64 ((i : Int) + 1) = ((i + 1 : Nat) : Int) := by rw [w64 (by omega) (by omega)]; rfl
    have hw2 : wrap64 ((n : Int) + 1) = ((n + 1 : Nat) : Int) := by rw [w64 (by omega) (by omega)]; rfl
    by_cases hgo : ∃ h : i < s.size, s[i] ≠ 10
    · obtain ⟨hlt, hne⟩ := hgo
      have hbt := bt_get s i hlt
      have hne' : ((s[i].toNat : Int) != 10) = true := by
        rw [bne_iff_ne]; exact fun e => hne (u8_lit _ 10 (by omega))
      refine Ev.step (f := fun k => wicketref11_Parse.j1 k s (acc.map toR) (n : Int) (a : Int) (i : Int) true) (fun k => ?_) ?_
      · simp only [wicketref11_Parse.l0]
        rw [if_pos (by omega), if_pos (by omega), if_pos (by omega), hbt, hne']
      · refine Ev.step (fun k => ?_) (ih a (i + 1) n acc (by omega) (by omega) (by omega) hn ha h5 ?_)
        · simp only [wicketref11_Parse.j1, if_true]
          rw [hw]
        · rw [show i + 1 - a = (i - a) + 1 by omega]
          have hlen : i - a < (s.data.toList.drop a).length := by rw [List.length_drop, data_len]; omega
          rw [List.take_succ_eq_append_getElem hlen, List.mem_append, not_or]
          refine ⟨h10, ?_⟩
          rw [List.mem_singleton, List.getElem_drop]
          intro e
          refine hne ?_
          rw [e]
          show s.data.toList[i] = _
          congr 1
          omega
    · have hrest : restN s.data.toList a = (s.data.toList.drop a).take (i - a) :: restN s.data.toList (i + 1) := by
        unfold restN
        rw [data_len, if_pos (by omega)]
        by_cases hlt : i < s.size
        · have h10i : s[i] = 10 := Classical.byContradiction fun e => hgo ⟨hlt, e⟩
          rw [if_pos (by omega)]
          have hcut : s.data.toList.drop a = (s.data.toList.drop a).take (i - a) ++ 10 :: s.data.toList.drop (i + 1) := by
            conv => lhs; rw [← List.take_append_drop (i - a) (s.data.toList.drop a)]
            congr 1
            rw [List.drop_drop, show a + (i - a) = i by omega, drop_at s i hlt, h10i]
          conv => lhs; rw [hcut]
          rw [splitL_hit 10 _ _ h10]
        · rw [if_neg (by omega)]
          have hz : (s.data.toList.drop a).take (i - a) = s.data.toList.drop a := List.take_of_length_le (by rw [List.length_drop, data_len]; omega)
          rw [hz] at h10 ⊢
          exact splitL_whole 10 _ h10
      have hplen : ((s.data.toList.drop a).take (i - a)).length = i - a := by rw [List.length_take, List.length_drop, data_len]; omega
      have hx : s.extract a i = bs ((s.data.toList.drop a).take (i - a)) := by rw [← extract_data s a i (by omega), bs_of]
      rw [hrest, regL_cons]
      have hl0 : ∀ r, Ev (fun k => wicketref11_Parse.j1 k s (acc.map toR) (n : Int) (a : Int) (i : Int) false) r → Ev (fun k => wicketref11_Parse.l0 k s (acc.map toR) (n : Int) (a : Int) (i : Int)) r := by
        refine fun r h => Ev.step (fun k => ?_) h
        simp only [wicketref11_Parse.l0]
        rw [if_pos (by omega)]
        by_cases hlt : i < s.size
        · have h10i : s[i] = 10 := Classical.byContradiction fun e => hgo ⟨hlt, e⟩
          have hbt := bt_get s i hlt
          rw [if_pos (by omega), if_pos (by omega), hbt, h10i]
          rfl
        · rw [if_neg (by omega)]
      refine hl0 _ ?_
      have hnext : ∀ bcc : List CC, bcc.length ≤ 256 → (∀ x ∈ bcc, x.f5.length ≤ 32) → Ev (fun k => wicketref11_Parse.l0 k s (bcc.map toR) ((n + 1 : Nat) : Int) ((i + 1 : Nat) : Int) ((i + 1 : Nat) : Int)) (resR (regL (restN s.data.toList (i + 1)) (n + 1) bcc)) := fun bcc hb hb5 => ih (i + 1) (i + 1) (n + 1) bcc (by omega) (by omega) (fun _ => rfl) (by omega) hb hb5 (by simp)
      generalize hp : (s.data.toList.drop a).take (i - a) = p at *
      have hj1 : ∀ r, Ev (fun k => wicketref11_Parse.j2 k s (acc.map toR) ((n + 1 : Nat) : Int) ((i + 1 : Nat) : Int) (i : Int) (bs p) (noteB p)) r → Ev (fun k => wicketref11_Parse.j1 k s (acc.map toR) (n : Int) (a : Int) (i : Int) false) r := by
        refine fun r h => Ev.step (fun k => ?_) h
        simp only [wicketref11_Parse.j1]
        rw [if_neg (by simp), if_pos (by omega), if_pos (by omega), if_pos (by omega), Int.toNat_natCast, Int.toNat_natCast, hx, hw, hw2]
        cases p with
        | nil => rw [if_pos (by rw [bs_toList])]; rfl
        | cons x r =>
          rw [if_neg (by rw [bs_toList]; simp), if_pos (by rw [bs_size, List.length_cons]; omega)]
          have hb := bt_bs (x :: r) 0 (by simp)
          rw [show (((0 : Nat) : Int)) = 0 from rfl] at hb
          rw [hb]
          rfl
      refine hj1 _ ?_
      by_cases hno : noteB p = true
      · rw [if_pos hno]
        refine Ev.step (fun k => ?_) (hnext acc ha h5)
        simp only [wicketref11_Parse.j2]
        rw [if_pos hno, hw]
      · rw [if_neg hno]
        have hlr := line_ref p (by omega)
        by_cases hk : (refLineS p).2 = true
        · rw [if_pos hk]
          have hfe := rfind_ev acc ⟨by omega, fun x hx => by have := h5 x hx; omega⟩ (refLineS p).1.i
          refine Ev.step (f := fun k => (wicketref11_Find.f k (acc.map toR) (refLineS p).1.i).bind fun bt417 => (if bt417.2.2.2.2.2.2 = true then (some (([] : List CR), 8, ((n + 1 : Nat) : Int))) else (if ((acc.map toR).length : Int) = 256 then (some (([] : List CR), 32, ((n + 1 : Nat) : Int))) else (if (acc.map toR).length < 1599289640401 then (wicketref11_Parse.l0 k s ((acc ++ [mkC (refLineS p).1]).map toR) ((n + 1 : Nat) : Int) ((i + 1 : Nat) : Int) ((i + 1 : Nat) : Int)) else (none))))) (fun k => ?_) ?_
          · simp only [wicketref11_Parse.j2]
            rw [if_neg hno, hlr, Option.bind_some, hw, List.map_append]
            simp only [flatC, hk, if_true]
            rfl
          · refine Ev.bind hfe ?_
            by_cases h1 : (foundC (refLineS p).1.i acc).2 = true
            · rw [if_pos h1]
              exact Ev.pos h1 (Ev.now _)
            · rw [if_neg h1]
              refine Ev.neg h1 ?_
              by_cases h2 : acc.length = 256
              · rw [if_pos h2]
                exact Ev.pos (by omega) (Ev.now _)
              · rw [if_neg h2]
                refine Ev.neg (by omega) (Ev.pos (by omega) ?_)
                refine hnext _ (by rw [List.length_append, List.length_singleton]; omega) (fun x hx => ?_)
                rcases List.mem_append.1 hx with hx | hx
                · exact h5 x hx
                · rw [List.mem_singleton.1 hx]; exact refLine_sc p
        · rw [if_neg hk]
          refine Ev.step (f := fun _ => some (([] : List CR), 110, ((n + 1 : Nat) : Int))) (fun k => ?_) (Ev.now _)
          simp only [wicketref11_Parse.j2]
          rw [if_neg hno, hlr, Option.bind_some]
          simp only [flatC]
          exact if_neg hk
theorem ref_ev (s : ByteArray) : Ev (fun k => wicketref11_Parse.f k s) (resR (regS s.data.toList)) := by
  unfold wicketref11_Parse.f regS
  rw [data_len]
  by_cases h : s.size > 65536
  · rw [if_pos h]
    exact Ev.pos (by omega) (Ev.now _)
  · rw [if_neg h]
    refine Ev.neg (by omega) ?_
    exact ref_lines s (by omega) (s.size + 1) 0 0 0 [] (by omega) (by omega) (by omega) (by omega) (by simp) (by simp) (by simp)
theorem regL_small : ∀ (ps : List (List UInt8)) (n : Nat) (acc : List CC), acc.length ≤ 256 → (∀ x ∈ acc, x.f5.length ≤ 32) → (regL ps n acc).1.length ≤ 256 ∧ ∀ x ∈ (regL ps n acc).1, x.f5.length ≤ 32
  | [], n, acc, h1, h2 => ⟨h1, h2⟩
  | p :: r, n, acc, h1, h2 => by
    rw [regL_cons]
    split
    · exact regL_small r _ _ h1 h2
    · split
      · split
        · simp
        · split
          · simp
          · refine regL_small r _ _ (by rw [List.length_append, List.length_singleton]; omega) (fun x hx => ?_)
            rcases List.mem_append.1 hx with hx | hx
            · exact h2 x hx
            · rw [List.mem_singleton.1 hx]; exact refLine_sc p
      · simp
theorem regS_small (s : List UInt8) : SmallC (regS s).1 := by
  have h : (regS s).1.length ≤ 256 ∧ ∀ x ∈ (regS s).1, x.f5.length ≤ 32 := by
    unfold regS
    split
    · simp
    · exact regL_small _ _ _ (by simp) (by simp)
  exact ⟨by omega, fun x hx => by have := h.2 x hx; omega⟩
end Go.Proofs.YtmimipgmhgalaaaGreatDoor.Pure
end
section
namespace Go.Proofs.YtmimipgmhgalaaaGreatDoor.PAll
open Go.RowKit Go.Proofs.YtmimipgmhgalaaaGreatDoorW.PrintWords Go.Proofs.YtmimipgmhgalaaaGreatDoor.Plain Go.Proofs.YtmimipgmhgalaaaGreatDoor.Pure
set_option linter.unusedVariables false
theorem C_bytes (w : World) (s : ByteArray) (hs : s.size ≤ 9223372036854775807) : Kd.C (Kd.int .u8) (Lib.bytesWorld w 5 s) (some ⟨w.heap.size, 0, none⟩) (bytesOf s).length (bytesOf s) := by
  refine Kd.C_of_reads (enc := Value.int .u8) (d := (0 : Int)) (h1 := fun _ => rfl) ⟨rfl, by rw [bytesOf_length]; exact hs, fun h0 => ⟨_, rfl, fun j hj => ?_⟩⟩
  rw [bytesOf_length] at hj
  have h := Lib.bytesWorld_cell w 5 s j hj
  have e : (Addr.mk w.heap.size 0 none).add j = ⟨w.heap.size, j, none⟩ := by
    unfold Addr.add
    by_cases h0 : j = 0
    · subst h0; rfl
    · rw [if_neg h0]; simp
  rw [e, h]
  have hl : j < s.data.toList.length := by rw [Array.length_toList]; exact hj
  congr 2
  simp [bytesOf, List.getD]
  cases s.data[j]? <;> simp
theorem below_bytes (w : World) (s : ByteArray) : Below w.heap.size w (Lib.bytesWorld w 5 s) := by
  refine ⟨rfl, rfl, rfl, ?_, fun k hk => Lib.bytesWorld_at_old w 5 s k hk⟩
  rw [Lib.bytesWorld_size]; omega
theorem xor_nat (x y : Nat) (hx : x < 256) (hy : y < 256) : Go.bits .xor .u8 (x : Int) (y : Int) = ((x ^^^ y : Nat) : Int) ∧ x ^^^ y < 256 := by
  have h := Nat.xor_lt_two_pow (n := 8) hx hy
  refine ⟨?_, h⟩
  simp only [bits, BitVec.ofInt_natCast, BitVec.toNat_xor, BitVec.toNat_ofNat]
  rw [show (2 : Nat) ^ IntKind.u8.bits = 256 from rfl, Nat.mod_eq_of_lt hx, Nat.mod_eq_of_lt hy]
  exact wraps_u8 _ (by omega) (by omega)
theorem or_xor (d x y : Nat) (hd : d < 256) (hx : x < 256) (hy : y < 256) : ∃ n : Nat, n < 256 ∧ Go.bits .or .u8 (d : Int) (Go.bits .xor .u8 (x : Int) (y : Int)) = (n : Int) ∧ (n = 0 ↔ d = 0 ∧ x = y) := by
  obtain ⟨h1, h2⟩ := xor_nat x y hx hy
  have h3 := (bits_nat .u8 8 (by decide) wraps_u8 d (x ^^^ y) hd h2).2
  refine ⟨d ||| (x ^^^ y), Nat.or_lt_two_pow (n := 8) hd h2, by rw [h1, h3], ?_⟩
  rw [Nat.or_eq_zero_iff]
  have hx : x ^^^ y = 0 ↔ x = y := by
    constructor
    · intro h
      have h5 := congrArg (fun z => z ^^^ y) h
      simpa [Nat.xor_assoc] using h5
    · rintro rfl; simp
  rw [hx]
theorem rd_bytes (s : ByteArray) (i : Nat) (h : i < s.size) : rd (bytesOf s) (i : Int) = (s[i].toNat : Int) := by
  have h1 : i < s.data.toList.length := by rw [Spec.data_len]; exact h
  unfold rd bytesOf
  rw [Int.toNat_natCast, List.getD_eq_getElem?_getD, List.getElem?_map, List.getElem?_eq_getElem h1]
  rfl
theorem same_loop (a b : ByteArray) (hl : a.size = b.size) (hs : a.size ≤ 140737488355328) : ∀ (m i d : Nat), i + m = a.size → d < 256 →
    Ev (fun k => digest_Same.l0 k (bytesOf a) (bytesOf b) (d : Int) (a.size : Int) (i : Int)) (decide (d = 0) && decide (a.data.toList.drop i = b.data.toList.drop i)) := by
  have hal := bytesOf_length a
  have hbl := bytesOf_length b
  intro m
  induction m with
  | zero =>
    intro i d hi hd
    rw [List.drop_eq_nil_of_le (by rw [Spec.data_len]; omega), List.drop_eq_nil_of_le (by rw [Spec.data_len]; omega)]
    refine Ev.step (f := fun _ => some ((d : Int) == 0)) (fun k => ?_) (Ev.eq (Ev.now _) ?_)
    · simp only [digest_Same.l0]
      rw [if_neg (by omega)]
    · rw [decide_eq_true rfl, Bool.and_true, Bool.eq_iff_iff]; simp
  | succ m ih =>
    intro i d hi hd
    have ha : i < a.size := by omega
    have hb : i < b.size := by omega
    have ra := rd_bytes a i ha
    have rb := rd_bytes b i hb
    obtain ⟨n, hn, he, hz⟩ := or_xor d a[i].toNat b[i].toNat hd a[i].toNat_lt b[i].toNat_lt
    refine Ev.step (fun k => ?_) (Ev.eq (ih (i + 1) n (by omega) hn) ?_)
    · simp only [digest_Same.l0]
      rw [if_pos (by omega), if_pos (by omega), if_pos (by omega), if_pos (by omega), ra, rb, he, w64 (by omega) (by omega)]
      rfl
    · rw [Spec.drop_at a i ha, Spec.drop_at b i hb, Bool.eq_iff_iff]
      simp only [Bool.and_eq_true, decide_eq_true_eq, List.cons.injEq, hz]
      constructor
      · rintro ⟨⟨h1, h2⟩, h3⟩
        exact ⟨h1, UInt8.toNat_inj.1 h2, h3⟩
      · rintro ⟨h1, h2, h3⟩
        exact ⟨⟨h1, by rw [h2]⟩, h3⟩
theorem same_ev (a b : ByteArray) (hs : a.size ≤ 140737488355328) : Ev (fun k => digest_Same.f k (bytesOf a) (bytesOf b)) (decide (a = b)) := by
  have hal := bytesOf_length a
  have hbl := bytesOf_length b
  unfold digest_Same.f
  by_cases hl : a.size = b.size
  · refine Ev.pos (by omega) ?_
    have h := same_loop a b hl hs a.size 0 0 (by omega) (by omega)
    rw [List.drop_zero, List.drop_zero, decide_eq_true rfl, Bool.true_and] at h
    rw [hal]
    refine Ev.eq h ?_
    rw [decide_eq_decide]
    constructor
    · intro e
      have := congrArg Spec.bs e
      rwa [Spec.bs_of, Spec.bs_of] at this
    · intro e; rw [e]
  · refine Ev.neg (by omega) (Ev.eq (Ev.now _) ?_)
    rw [eq_comm, decide_eq_false_iff_not]
    intro e; exact hl (by rw [e])
def client_same.f (a0 a1 : ByteArray) : Option Bool := if a0.size ≤ 140737488355328 ∧ a1.size ≤ 140737488355328 then some (decide (a0 = a1)) else none
set_option maxHeartbeats 4000000 in
set_option maxRecDepth 100000 in
theorem client_same.calls (a0 a1 : ByteArray) (r1 : Bool) (w : World) (h : client_same.f a0 a1 = some r1) :
    Calls Tryz.prog 109 #[.string a0, .string a1] w fun e w' => e = .returned (.bool r1) ∧ Below w.heap.size w w' := by
  unfold client_same.f at h
  split at h
  · rename_i hs
    obtain rfl := Option.some.inj h
    obtain ⟨k, hk⟩ := Ev.rounds (same_ev a0 a1 hs.1)
    have c1 := Lib.run_convert_string_bytes w 9 79 5 a0 Tryz.underlying9 Tryz.underlying79 Tryz.underlying5
    have c2 := Lib.run_convert_string_bytes (Lib.bytesWorld w 5 a0) 9 79 5 a1 Tryz.underlying9 Tryz.underlying79 Tryz.underlying5
    have b1 := below_bytes w a0
    have b2 := below_bytes (Lib.bytesWorld w 5 a0) a1
    have hB := b1.trans (b2.mono b1.size)
    have k1 := Kd.C_below (C_bytes w a0 (by omega)) b2
    have k2 := C_bytes (Lib.bytesWorld w 5 a0) a1 (by omega)
    have g1 : (bytesOf a0).length ≤ grownCap w a0.size 0 5 := by rw [bytesOf_length]; exact grownCap_ge ..
    have g2 : (bytesOf a1).length ≤ grownCap (Lib.bytesWorld w 5 a0) a1.size 0 5 := by rw [bytesOf_length]; exact grownCap_ge ..
    have hcall := digest_Same.calls k _ _ (bytesOf a0) _ _ (bytesOf a1) _ _ k1 g1 k2 g2 hk
    rw [bytesOf_length, bytesOf_length, Lib.bytesWorld_size] at hcall
    rw [Lib.bytesWorld_size] at c2
    clear k1 k2 g1 g2 b1 b2 hk
    go_enter Tryz.func109, Tryz.ntmps109
    go_wp2_with (go_at_call 137; refine hcall.mono ?_; rintro e w1 ⟨rfl, hd⟩)
    go_ret
    exact ⟨rfl, hB.trans ((hd.below).mono hB.size)⟩
  · cases h
end Go.Proofs.YtmimipgmhgalaaaGreatDoor.PAll
end
section
namespace Go.Proofs.YtmimipgmhgalaaaGreatDoor.PAll
open Go.RowKit Go.Proofs.YtmimipgmhgalaaaGreatDoorW.PrintWords Go.Proofs.YtmimipgmhgalaaaGreatDoorW.PrintLast Go.Proofs.YtmimipgmhgalaaaGreatDoorW.PrintMore
set_option linter.unusedVariables false
set_option linter.unusedSimpArgs false
theorem put_six {w : World} {g : Nat} {t : TypeId} {a0 a1 a2 a3 a4 a5 : Value} (h : w.heap[g]? = some (.cells #[a0, a1, a2, a3, a4, a5] t (0, 0))) (b0 b1 b2 b3 b4 b5 : Value) :
    ((((((w.setCell ⟨g, 0, none⟩ b0).setCell ⟨g, 1, none⟩ b1).setCell ⟨g, 2, none⟩ b2).setCell ⟨g, 3, none⟩ b3).setCell ⟨g, 4, none⟩ b4).setCell ⟨g, 5, none⟩ b5).heap[g]? = some (.cells #[b0, b1, b2, b3, b4, b5] t (0, 0)) :=
  blk_put (blk_put (blk_put (blk_put (blk_put (blk_put h 0 b0 rfl) 1 b1 rfl) 2 b2 rfl) 3 b3 rfl) 4 b4 rfl) 5 b5 rfl
theorem below_six {V w : World} {g : Nat} (h : Below V.heap.size V w) (hg : V.heap.size ≤ g) (b0 b1 b2 b3 b4 b5 : Value) :
    Below V.heap.size V ((((((w.setCell ⟨g, 0, none⟩ b0).setCell ⟨g, 1, none⟩ b1).setCell ⟨g, 2, none⟩ b2).setCell ⟨g, 3, none⟩ b3).setCell ⟨g, 4, none⟩ b4).setCell ⟨g, 5, none⟩ b5) :=
  below_set (below_set (below_set (below_set (below_set (below_set h hg) hg) hg) hg) hg) hg
set_option maxRecDepth 100000 in
set_option maxHeartbeats 1000000 in
theorem proven_yes (A : Option Addr) (c : Nat) (V : World) : Calls Tryz.prog 70 #[.agg #[.string ⟨#[98, 111, 120]⟩, .string ⟨#[115]⟩, .int .i64 2, .bool false, .string ⟨#[]⟩, .slice A 1 c], .int .i64 2, .string ⟨#[115]⟩] V fun e w' => e = .returned (.tuple #[.agg #[.string ⟨#[98, 111, 120]⟩, .string ⟨#[115]⟩, .int .i64 2, .bool false, .string ⟨#[]⟩, .slice A 1 c], .int .i64 2, .int .i64 0]) ∧ Below V.heap.size V w' := by
  have HS := Lib.hid (fun W : World => client_same.calls ⟨#[115]⟩ ⟨#[115]⟩ true W (by kernel_rfl))
  have HB := Lib.hid (Below.refl V.heap.size V)
  go_enter Tryz.func70, Tryz.ntmps70
  go_upto_block 2 with (first | ((with_reducible refine gate_dst (N := 3) rfl ?_); refine box_event ?hg (N := 3) ?hd (cs := #[.string ⟨#[98, 111, 120]⟩, .string ⟨#[115]⟩, .int .i64 2, .bool false, .string ⟨#[]⟩, .slice A 1 c]) (t := 40) ?hr ?_; (case hd => rfl); (case hg => rfl); (case hr => first | (go_simp; done) | (go_simp; rfl)); intro p hg w_p hbox hb; have n0_ := Lib.hid (below_step (w := V) (by repeat (first | (with_reducible first | exact HB.out | apply below_alloc | apply pw_below_drewN | apply below_drew1) | exact HB.out)) hb); have BKp := Lib.hid hbox; have GEp := Lib.hid ((by rw [hg]; exact below_size (by repeat (first | (with_reducible first | exact HB.out | apply below_alloc | apply pw_below_drewN | apply below_drew1) | exact HB.out))) : V.heap.size ≤ p); (try have BKO := Lib.hid (blk_below (by (with_reducible repeat (first | refine blk_drewN ?_ _ | refine blk_drew ?_ | refine blk_alloc ?_ _)); exact BKq.out) hb)); clear HB hbox hb hg; have HB := n0_; clear n0_) | ((with_reducible refine gate_dst (N := 6) rfl ?_); refine box_event ?hg (N := 6) ?hd (cs := #[.string ⟨#[]⟩, .string ⟨#[]⟩, .int .i64 0, .bool false, .string ⟨#[]⟩, .slice none 0 0]) (t := 40) ?hr ?_; (case hd => rfl); (case hg => rfl); (case hr => first | (go_simp; done) | (go_simp; rfl)); intro q hg w_q hbox hb; have n0_ := Lib.hid (below_step (w := V) (by repeat (first | (with_reducible first | exact HB.out | apply below_alloc | apply pw_below_drewN | apply below_drew1) | exact HB.out)) hb); have BKq := Lib.hid hbox; have GEq := Lib.hid ((by rw [hg]; exact below_size (by repeat (first | (with_reducible first | exact HB.out | apply below_alloc | apply pw_below_drewN | apply below_drew1) | exact HB.out))) : V.heap.size ≤ q); (try have BKO := Lib.hid (blk_below (by (with_reducible repeat (first | refine blk_drewN ?_ _ | refine blk_drew ?_ | refine blk_alloc ?_ _)); exact BKp.out) hb)); clear HB hbox hb hg; have HB := n0_; clear n0_))
  have BP := BKO
  have BQ := BKq
  clear BKp BKO BKq
  have c30 := (blk_cell BP.out 0).trans rfl; have f30 := blk_frozen BP.out 0; have c60 := (blk_cell BQ.out 0).trans rfl; have f60 := blk_frozen BQ.out 0; have c31 := (blk_cell BP.out 1).trans rfl; have f31 := blk_frozen BP.out 1; have c61 := (blk_cell BQ.out 1).trans rfl; have f61 := blk_frozen BQ.out 1; have c32 := (blk_cell BP.out 2).trans rfl; have f32 := blk_frozen BP.out 2; have c62 := (blk_cell BQ.out 2).trans rfl; have f62 := blk_frozen BQ.out 2; have c33 := (blk_cell BP.out 3).trans rfl; have f33 := blk_frozen BP.out 3; have c63 := (blk_cell BQ.out 3).trans rfl; have f63 := blk_frozen BQ.out 3; have c34 := (blk_cell BP.out 4).trans rfl; have f34 := blk_frozen BP.out 4; have c64 := (blk_cell BQ.out 4).trans rfl; have f64 := blk_frozen BQ.out 4; have c35 := (blk_cell BP.out 5).trans rfl; have f35 := blk_frozen BP.out 5; have c65 := (blk_cell BQ.out 5).trans rfl; have f65 := blk_frozen BQ.out 5
  go_wp2_with (go_at_call 109; (with_reducible refine (HS.out _).mono ?_); rintro e w5 ⟨rfl, hb⟩; have n1_ := Lib.hid (blk_below BP.out hb); have n2_ := Lib.hid (blk_below BQ.out hb); have n3_ := Lib.hid (below_step HB.out hb); clear hb BP BQ HB; clear c30 f30 c60 f60 c31 f31 c61 f61 c32 f32 c62 f62 c33 f33 c63 f63 c34 f34 c64 f64 c35 f35 c65 f65; have BP := n1_; have BQ := n2_; have HB := n3_; clear n1_ n2_ n3_; have c30 := (blk_cell BP.out 0).trans rfl; have f30 := blk_frozen BP.out 0; have c60 := (blk_cell BQ.out 0).trans rfl; have f60 := blk_frozen BQ.out 0; have c31 := (blk_cell BP.out 1).trans rfl; have f31 := blk_frozen BP.out 1; have c61 := (blk_cell BQ.out 1).trans rfl; have f61 := blk_frozen BQ.out 1; have c32 := (blk_cell BP.out 2).trans rfl; have f32 := blk_frozen BP.out 2; have c62 := (blk_cell BQ.out 2).trans rfl; have f62 := blk_frozen BQ.out 2; have c33 := (blk_cell BP.out 3).trans rfl; have f33 := blk_frozen BP.out 3; have c63 := (blk_cell BQ.out 3).trans rfl; have f63 := blk_frozen BQ.out 3; have c34 := (blk_cell BP.out 4).trans rfl; have f34 := blk_frozen BP.out 4; have c64 := (blk_cell BQ.out 4).trans rfl; have f64 := blk_frozen BQ.out 4; have c35 := (blk_cell BP.out 5).trans rfl; have f35 := blk_frozen BP.out 5; have c65 := (blk_cell BQ.out 5).trans rfl; have f65 := blk_frozen BQ.out 5)
  refine bodyPost_ret (results_ctt rfl _ _ q 40 #[.string ⟨#[98, 111, 120]⟩, .string ⟨#[115]⟩, .int .i64 2, .bool false, .string ⟨#[]⟩, .slice A 1 c] (0, 0) _ rfl (put_six BQ.out _ _ _ _ _ _) Tryz.underlying40 rfl (by kernel_rfl)) rfl ?_
  exact ⟨rfl, below_six HB.out GEq.out _ _ _ _ _ _⟩
set_option maxRecDepth 100000 in
set_option maxHeartbeats 1000000 in
theorem proven_no (A : Option Addr) (c : Nat) (V : World) : Calls Tryz.prog 70 #[.agg #[.string ⟨#[98, 111, 120]⟩, .string ⟨#[115]⟩, .int .i64 2, .bool false, .string ⟨#[]⟩, .slice A 1 c], .int .i64 2, .string ⟨#[]⟩] V fun e w' => e = .returned (.tuple #[.agg #[.string ⟨#[]⟩, .string ⟨#[]⟩, .int .i64 0, .bool false, .string ⟨#[]⟩, .slice none 0 0], .int .i64 0, .int .i64 112]) ∧ Below V.heap.size V w' := by
  have HS := Lib.hid (fun W : World => client_same.calls ⟨#[115]⟩ ⟨#[]⟩ false W (by kernel_rfl))
  have HB := Lib.hid (Below.refl V.heap.size V)
  go_enter Tryz.func70, Tryz.ntmps70
  go_upto_block 2 with (first | ((with_reducible refine gate_dst (N := 3) rfl ?_); refine box_event ?hg (N := 3) ?hd (cs := #[.string ⟨#[98, 111, 120]⟩, .string ⟨#[115]⟩, .int .i64 2, .bool false, .string ⟨#[]⟩, .slice A 1 c]) (t := 40) ?hr ?_; (case hd => rfl); (case hg => rfl); (case hr => first | (go_simp; done) | (go_simp; rfl)); intro p hg w_p hbox hb; have n0_ := Lib.hid (below_step (w := V) (by repeat (first | (with_reducible first | exact HB.out | apply below_alloc | apply pw_below_drewN | apply below_drew1) | exact HB.out)) hb); have BKp := Lib.hid hbox; have GEp := Lib.hid ((by rw [hg]; exact below_size (by repeat (first | (with_reducible first | exact HB.out | apply below_alloc | apply pw_below_drewN | apply below_drew1) | exact HB.out))) : V.heap.size ≤ p); (try have BKO := Lib.hid (blk_below (by (with_reducible repeat (first | refine blk_drewN ?_ _ | refine blk_drew ?_ | refine blk_alloc ?_ _)); exact BKq.out) hb)); clear HB hbox hb hg; have HB := n0_; clear n0_) | ((with_reducible refine gate_dst (N := 6) rfl ?_); refine box_event ?hg (N := 6) ?hd (cs := #[.string ⟨#[]⟩, .string ⟨#[]⟩, .int .i64 0, .bool false, .string ⟨#[]⟩, .slice none 0 0]) (t := 40) ?hr ?_; (case hd => rfl); (case hg => rfl); (case hr => first | (go_simp; done) | (go_simp; rfl)); intro q hg w_q hbox hb; have n0_ := Lib.hid (below_step (w := V) (by repeat (first | (with_reducible first | exact HB.out | apply below_alloc | apply pw_below_drewN | apply below_drew1) | exact HB.out)) hb); have BKq := Lib.hid hbox; have GEq := Lib.hid ((by rw [hg]; exact below_size (by repeat (first | (with_reducible first | exact HB.out | apply below_alloc | apply pw_below_drewN | apply below_drew1) | exact HB.out))) : V.heap.size ≤ q); (try have BKO := Lib.hid (blk_below (by (with_reducible repeat (first | refine blk_drewN ?_ _ | refine blk_drew ?_ | refine blk_alloc ?_ _)); exact BKp.out) hb)); clear HB hbox hb hg; have HB := n0_; clear n0_))
  have BP := BKO
  have BQ := BKq
  clear BKp BKO BKq
  have c30 := (blk_cell BP.out 0).trans rfl; have f30 := blk_frozen BP.out 0; have c60 := (blk_cell BQ.out 0).trans rfl; have f60 := blk_frozen BQ.out 0; have c31 := (blk_cell BP.out 1).trans rfl; have f31 := blk_frozen BP.out 1; have c61 := (blk_cell BQ.out 1).trans rfl; have f61 := blk_frozen BQ.out 1; have c32 := (blk_cell BP.out 2).trans rfl; have f32 := blk_frozen BP.out 2; have c62 := (blk_cell BQ.out 2).trans rfl; have f62 := blk_frozen BQ.out 2; have c33 := (blk_cell BP.out 3).trans rfl; have f33 := blk_frozen BP.out 3; have c63 := (blk_cell BQ.out 3).trans rfl; have f63 := blk_frozen BQ.out 3; have c34 := (blk_cell BP.out 4).trans rfl; have f34 := blk_frozen BP.out 4; have c64 := (blk_cell BQ.out 4).trans rfl; have f64 := blk_frozen BQ.out 4; have c35 := (blk_cell BP.out 5).trans rfl; have f35 := blk_frozen BP.out 5; have c65 := (blk_cell BQ.out 5).trans rfl; have f65 := blk_frozen BQ.out 5
  go_wp2_with (go_at_call 109; (with_reducible refine (HS.out _).mono ?_); rintro e w5 ⟨rfl, hb⟩; have n1_ := Lib.hid (blk_below BP.out hb); have n2_ := Lib.hid (blk_below BQ.out hb); have n3_ := Lib.hid (below_step HB.out hb); clear hb BP BQ HB; clear c30 f30 c60 f60 c31 f31 c61 f61 c32 f32 c62 f62 c33 f33 c63 f63 c34 f34 c64 f64 c35 f35 c65 f65; have BP := n1_; have BQ := n2_; have HB := n3_; clear n1_ n2_ n3_; have c30 := (blk_cell BP.out 0).trans rfl; have f30 := blk_frozen BP.out 0; have c60 := (blk_cell BQ.out 0).trans rfl; have f60 := blk_frozen BQ.out 0; have c31 := (blk_cell BP.out 1).trans rfl; have f31 := blk_frozen BP.out 1; have c61 := (blk_cell BQ.out 1).trans rfl; have f61 := blk_frozen BQ.out 1; have c32 := (blk_cell BP.out 2).trans rfl; have f32 := blk_frozen BP.out 2; have c62 := (blk_cell BQ.out 2).trans rfl; have f62 := blk_frozen BQ.out 2; have c33 := (blk_cell BP.out 3).trans rfl; have f33 := blk_frozen BP.out 3; have c63 := (blk_cell BQ.out 3).trans rfl; have f63 := blk_frozen BQ.out 3; have c34 := (blk_cell BP.out 4).trans rfl; have f34 := blk_frozen BP.out 4; have c64 := (blk_cell BQ.out 4).trans rfl; have f64 := blk_frozen BQ.out 4; have c35 := (blk_cell BP.out 5).trans rfl; have f35 := blk_frozen BP.out 5; have c65 := (blk_cell BQ.out 5).trans rfl; have f65 := blk_frozen BQ.out 5)
  refine bodyPost_ret (results_ctt rfl _ _ q 40 #[.string ⟨#[]⟩, .string ⟨#[]⟩, .int .i64 0, .bool false, .string ⟨#[]⟩, .slice none 0 0] (0, 0) _ rfl (put_six BQ.out _ _ _ _ _ _) Tryz.underlying40 rfl (by kernel_rfl)) rfl ?_
  exact ⟨rfl, below_six HB.out GEq.out _ _ _ _ _ _⟩
def liveL : List S40 := [⟨⟨#[98, 111, 120]⟩, ⟨#[115]⟩, 2, false, ⟨#[]⟩, [⟨#[112, 97, 121]⟩]⟩, ⟨⟨#[116, 118]⟩, ⟨#[]⟩, 1, false, ⟨#[]⟩, []⟩]
def liveP1 : List S68 := [⟨⟨#[99, 108, 105, 101, 110, 116, 95, 105, 100]⟩, ⟨#[98, 111, 120]⟩⟩]
def liveP2 : List S68 := [⟨⟨#[99, 108, 105, 101, 110, 116, 95, 105, 100]⟩, ⟨#[98, 111, 120]⟩⟩, ⟨⟨#[99, 108, 105, 101, 110, 116, 95, 115, 101, 99, 114, 101, 116]⟩, ⟨#[115]⟩⟩]
theorem six_far {w : World} {g k : Nat} (h : k ≠ g) (b0 b1 b2 b3 b4 b5 : Value) :
    ((((((w.setCell ⟨g, 0, none⟩ b0).setCell ⟨g, 1, none⟩ b1).setCell ⟨g, 2, none⟩ b2).setCell ⟨g, 3, none⟩ b3).setCell ⟨g, 4, none⟩ b4).setCell ⟨g, 5, none⟩ b5).heap[k]? = w.heap[k]? :=
  (Below.heap_setCell _ _ _ _ h).trans <| (Below.heap_setCell _ _ _ _ h).trans <| (Below.heap_setCell _ _ _ _ h).trans <| (Below.heap_setCell _ _ _ _ h).trans <| (Below.heap_setCell _ _ _ _ h).trans (Below.heap_setCell _ _ _ _ h)
theorem cS_one {w : World} {g : Nat} {cs : Array Value} {t : TypeId} {x : ByteArray} (h : w.heap[g]? = some (.cells cs t (0, 0))) (h0 : cs[0]? = some (.string x)) : Kd.C Kd.string w (some ⟨g, 0, none⟩) 1 [x] := by
  refine ⟨rfl, by omega, fun _ => ⟨_, rfl, fun j p hj => ?_⟩⟩
  rcases j with _ | j
  · obtain rfl : x = p := Option.some.inj hj
    refine ⟨[.string x], rfl, rfl, fun i u hu => ?_⟩
    rw [← hu]
    rcases i with _ | i
    · exact (blk_cell h 0).trans h0
    · cases hu
  · cases hj
set_option maxRecDepth 100000 in
set_option maxHeartbeats 1000000 in
theorem auth_yes (V : World) (g s c : Nat) (h1 : Kd.C k40 V (some ⟨g, 0, none⟩) 2 liveL) (h2 : Kd.C k68 V (some ⟨s, 0, none⟩) 2 liveP2) (h3 : 2 ≤ c) : Calls Tryz.prog 34 #[.slice (some ⟨g, 0, none⟩) 2 c, .string ⟨#[]⟩, .slice (some ⟨s, 0, none⟩) 2 2] V fun e w' => ∃ (A : Option Addr) (c5 : Nat), e = .returned (.tuple #[.agg #[.string ⟨#[98, 111, 120]⟩, .string ⟨#[115]⟩, .int .i64 2, .bool false, .string ⟨#[]⟩, .slice A 1 c5], .int .i64 2, .int .i64 0]) ∧ 1 ≤ c5 ∧ Kd.C Kd.string w' A 1 [⟨#[112, 97, 121]⟩] ∧ Below V.heap.size V w' := by
  have HO1 := Lib.hid (fun (W : World) (h : Kd.C k68 W (some ⟨s, 0, none⟩) 2 liveP2) => show Calls Tryz.prog 69 #[.slice (some ⟨s, 0, none⟩) 2 2, .string ⟨#[99, 108, 105, 101, 110, 116, 95, 105, 100]⟩] W (fun e w' => e = .returned (.tuple #[.string ⟨#[98, 111, 120]⟩, .bool true, .int .i64 0]) ∧ Below W.heap.size W w') from urlform_One.calls 400 (some ⟨s, 0, none⟩) 2 liveP2 ⟨#[99, 108, 105, 101, 110, 116, 95, 105, 100]⟩ _ _ _ W h (Nat.le_refl _) (by kernel_rfl))
  have HO2 := Lib.hid (fun (W : World) (h : Kd.C k68 W (some ⟨s, 0, none⟩) 2 liveP2) => show Calls Tryz.prog 69 #[.slice (some ⟨s, 0, none⟩) 2 2, .string ⟨#[99, 108, 105, 101, 110, 116, 95, 115, 101, 99, 114, 101, 116]⟩] W (fun e w' => e = .returned (.tuple #[.string ⟨#[115]⟩, .bool true, .int .i64 0]) ∧ Below W.heap.size W w') from urlform_One.calls 400 (some ⟨s, 0, none⟩) 2 liveP2 ⟨#[99, 108, 105, 101, 110, 116, 95, 115, 101, 99, 114, 101, 116]⟩ _ _ _ W h (Nat.le_refl _) (by kernel_rfl))
  have HF := Lib.hid (fun (W : World) (h : Kd.C k40 W (some ⟨g, 0, none⟩) 2 liveL) => show Calls Tryz.prog 29 #[.slice (some ⟨g, 0, none⟩) 2 c, .string ⟨#[98, 111, 120]⟩] W (fun e w' => ∃ (g2 c5 : Nat) (cs : Array Value), e = .returned (.tuple #[.agg #[.string ⟨#[98, 111, 120]⟩, .string ⟨#[115]⟩, .int .i64 2, .bool false, .string ⟨#[]⟩, .slice (some ⟨g2, 0, none⟩) 1 c5], .bool true]) ∧ 1 ≤ c5 ∧ W.heap.size ≤ g2 ∧ w'.heap[g2]? = some (.cells cs 9 (0, 0)) ∧ cs[0]? = some (.string ⟨#[112, 97, 121]⟩) ∧ Below W.heap.size W w') from by
    refine (client_Find.calls 400 (some ⟨g, 0, none⟩) c liveL ⟨#[98, 111, 120]⟩ ⟨#[98, 111, 120]⟩ ⟨#[115]⟩ 2 false ⟨#[]⟩ [⟨#[112, 97, 121]⟩] true W h h3 (by kernel_rfl)).mono ?_
    rintro e w' ⟨v5, rfl, hR, hb⟩
    obtain ⟨g2, c5, rfl, hg2, _, cs, hcs⟩ := Kd.R_form hR (by decide)
    obtain ⟨_, hl, hC⟩ := Kd.R_reads' hR
    obtain ⟨ad, cc, hA, _, hK, hcell⟩ := Kd.C_get hC (⟨#[]⟩ : ByteArray) 0 (by omega) (by decide)
    obtain rfl : (⟨g2, 0, none⟩ : Addr) = ad := Option.some.inj hA
    have hK' : cc = [.string ⟨#[112, 97, 121]⟩] := hK
    subst hK'
    exact ⟨g2, c5, cs, rfl, hl, hg2, hcs, (blk_cell hcs 0).symm.trans (hcell 0 _ rfl), hb⟩)
  go_enter Tryz.func34, Tryz.ntmps34
  go_upto_region 1 with ((with_reducible refine gate_dst (N := 6) rfl ?_); refine box_event ?hg (N := 6) ?hd (cs := #[.string ⟨#[]⟩, .string ⟨#[]⟩, .int .i64 0, .bool false, .string ⟨#[]⟩, .slice none 0 0]) (t := 40) ?hr ?_; (case hd => rfl); (case hg => rfl); (case hr => first | (go_simp; done) | (go_simp; rfl)); intro q hg w_q hbox hb; have BQ := Lib.hid hbox; have GE := Lib.hid ((by rw [hg]; exact Nat.le_refl _) : V.heap.size ≤ q); have HB := Lib.hid hb; have HC := Lib.hid (Kd.C_below h1 hb); have HD := Lib.hid (Kd.C_below h2 hb); clear hbox hg hb h1 h2)
  go_wp2_with (first | (go_at_call 69; (with_reducible refine (HO1.out _ HD.out).mono ?_); rintro e w1 ⟨rfl, hb⟩; have n1_ := Lib.hid (below_step HB.out hb); have n2_ := Lib.hid (blk_below BQ.out hb); have n3_ := Lib.hid (Kd.C_below HC.out hb); have n4_ := Lib.hid (Kd.C_below HD.out hb); clear HB BQ HC HD; have HB := n1_; have BQ := n2_; have HC := n3_; have HD := n4_; clear n1_ n2_ n3_ n4_ hb) | (go_at_call 69; (with_reducible refine (HO2.out _ HD.out).mono ?_); rintro e w2 ⟨rfl, hb⟩; have n1_ := Lib.hid (below_step HB.out hb); have n2_ := Lib.hid (blk_below BQ.out hb); have n3_ := Lib.hid (Kd.C_below HC.out hb); have n4_ := Lib.hid (Kd.C_below HD.out hb); clear HB BQ HC HD; have HB := n1_; have BQ := n2_; have HC := n3_; have HD := n4_; clear n1_ n2_ n3_ n4_ hb) | (go_at_call 29; (with_reducible refine (HF.out _ HC.out).mono ?_); rintro e w3 ⟨g2, c5, cs, rfl, hc5, hg2, hcs, h0, hb⟩; have NE := Lib.hid ((by have := blk_lt BQ.out; omega) : g2 ≠ q); have H5 := Lib.hid hc5; have H0 := Lib.hid h0; have BF := Lib.hid hcs; clear hc5 hg2 hcs h0; have n1_ := Lib.hid (below_step HB.out hb); have n2_ := Lib.hid (blk_below BQ.out hb); have n3_ := Lib.hid (Kd.C_below HC.out hb); have n4_ := Lib.hid (Kd.C_below HD.out hb); clear HB BQ HC HD; have HB := n1_; have BQ := n2_; have HC := n3_; have HD := n4_; clear n1_ n2_ n3_ n4_ hb) | (go_at_call 70; (with_reducible refine (proven_yes _ _ _).mono ?_); rintro e w4 ⟨rfl, hb⟩; have n1_ := Lib.hid (below_step (below_alloc HB.out _) hb); have n2_ := Lib.hid (blk_below (blk_alloc BQ.out _) hb); have n5_ := Lib.hid (blk_below (blk_alloc BF.out _) hb); clear HB BQ BF HC HD hb; have HB := n1_; have BQ := n2_; have BF := n5_; clear n1_ n2_ n5_; have c60 := (blk_cell BQ.out 0).trans rfl; have f60 := blk_frozen BQ.out 0; have c61 := (blk_cell BQ.out 1).trans rfl; have f61 := blk_frozen BQ.out 1; have c62 := (blk_cell BQ.out 2).trans rfl; have f62 := blk_frozen BQ.out 2; have c63 := (blk_cell BQ.out 3).trans rfl; have f63 := blk_frozen BQ.out 3; have c64 := (blk_cell BQ.out 4).trans rfl; have f64 := blk_frozen BQ.out 4; have c65 := (blk_cell BQ.out 5).trans rfl; have f65 := blk_frozen BQ.out 5))
  refine bodyPost_ret (results_ctt rfl _ _ q 40 #[.string ⟨#[98, 111, 120]⟩, .string ⟨#[115]⟩, .int .i64 2, .bool false, .string ⟨#[]⟩, .slice (some ⟨g2, 0, none⟩) 1 c5] (0, 0) _ rfl (put_six BQ.out _ _ _ _ _ _) Tryz.underlying40 rfl (by kernel_rfl)) rfl ?_
  exact ⟨some ⟨g2, 0, none⟩, c5, rfl, H5.out, cS_one ((six_far NE.out _ _ _ _ _ _).trans BF.out) H0.out, below_six HB.out GE.out _ _ _ _ _ _⟩
set_option maxRecDepth 100000 in
set_option maxHeartbeats 1000000 in
theorem auth_no (V : World) (g s c : Nat) (h1 : Kd.C k40 V (some ⟨g, 0, none⟩) 2 liveL) (h2 : Kd.C k68 V (some ⟨s, 0, none⟩) 1 liveP1) (h3 : 2 ≤ c) : Calls Tryz.prog 34 #[.slice (some ⟨g, 0, none⟩) 2 c, .string ⟨#[]⟩, .slice (some ⟨s, 0, none⟩) 1 1] V fun e w' => e = .returned (.tuple #[.agg #[.string ⟨#[]⟩, .string ⟨#[]⟩, .int .i64 0, .bool false, .string ⟨#[]⟩, .slice none 0 0], .int .i64 0, .int .i64 112]) ∧ Below V.heap.size V w' := by
  have HO1 := Lib.hid (fun (W : World) (h : Kd.C k68 W (some ⟨s, 0, none⟩) 1 liveP1) => show Calls Tryz.prog 69 #[.slice (some ⟨s, 0, none⟩) 1 1, .string ⟨#[99, 108, 105, 101, 110, 116, 95, 105, 100]⟩] W (fun e w' => e = .returned (.tuple #[.string ⟨#[98, 111, 120]⟩, .bool true, .int .i64 0]) ∧ Below W.heap.size W w') from urlform_One.calls 400 (some ⟨s, 0, none⟩) 1 liveP1 ⟨#[99, 108, 105, 101, 110, 116, 95, 105, 100]⟩ _ _ _ W h (Nat.le_refl _) (by kernel_rfl))
  have HO2 := Lib.hid (fun (W : World) (h : Kd.C k68 W (some ⟨s, 0, none⟩) 1 liveP1) => show Calls Tryz.prog 69 #[.slice (some ⟨s, 0, none⟩) 1 1, .string ⟨#[99, 108, 105, 101, 110, 116, 95, 115, 101, 99, 114, 101, 116]⟩] W (fun e w' => e = .returned (.tuple #[.string ⟨#[]⟩, .bool false, .int .i64 0]) ∧ Below W.heap.size W w') from urlform_One.calls 400 (some ⟨s, 0, none⟩) 1 liveP1 ⟨#[99, 108, 105, 101, 110, 116, 95, 115, 101, 99, 114, 101, 116]⟩ _ _ _ W h (Nat.le_refl _) (by kernel_rfl))
  have HF := Lib.hid (fun (W : World) (h : Kd.C k40 W (some ⟨g, 0, none⟩) 2 liveL) => show Calls Tryz.prog 29 #[.slice (some ⟨g, 0, none⟩) 2 c, .string ⟨#[98, 111, 120]⟩] W (fun e w' => ∃ (g2 c5 : Nat) (cs : Array Value), e = .returned (.tuple #[.agg #[.string ⟨#[98, 111, 120]⟩, .string ⟨#[115]⟩, .int .i64 2, .bool false, .string ⟨#[]⟩, .slice (some ⟨g2, 0, none⟩) 1 c5], .bool true]) ∧ 1 ≤ c5 ∧ W.heap.size ≤ g2 ∧ w'.heap[g2]? = some (.cells cs 9 (0, 0)) ∧ cs[0]? = some (.string ⟨#[112, 97, 121]⟩) ∧ Below W.heap.size W w') from by
    refine (client_Find.calls 400 (some ⟨g, 0, none⟩) c liveL ⟨#[98, 111, 120]⟩ ⟨#[98, 111, 120]⟩ ⟨#[115]⟩ 2 false ⟨#[]⟩ [⟨#[112, 97, 121]⟩] true W h h3 (by kernel_rfl)).mono ?_
    rintro e w' ⟨v5, rfl, hR, hb⟩
    obtain ⟨g2, c5, rfl, hg2, _, cs, hcs⟩ := Kd.R_form hR (by decide)
    obtain ⟨_, hl, hC⟩ := Kd.R_reads' hR
    obtain ⟨ad, cc, hA, _, hK, hcell⟩ := Kd.C_get hC (⟨#[]⟩ : ByteArray) 0 (by omega) (by decide)
    obtain rfl : (⟨g2, 0, none⟩ : Addr) = ad := Option.some.inj hA
    have hK' : cc = [.string ⟨#[112, 97, 121]⟩] := hK
    subst hK'
    exact ⟨g2, c5, cs, rfl, hl, hg2, hcs, (blk_cell hcs 0).symm.trans (hcell 0 _ rfl), hb⟩)
  go_enter Tryz.func34, Tryz.ntmps34
  go_upto_region 1 with ((with_reducible refine gate_dst (N := 6) rfl ?_); refine box_event ?hg (N := 6) ?hd (cs := #[.string ⟨#[]⟩, .string ⟨#[]⟩, .int .i64 0, .bool false, .string ⟨#[]⟩, .slice none 0 0]) (t := 40) ?hr ?_; (case hd => rfl); (case hg => rfl); (case hr => first | (go_simp; done) | (go_simp; rfl)); intro q hg w_q hbox hb; have BQ := Lib.hid hbox; have GE := Lib.hid ((by rw [hg]; exact Nat.le_refl _) : V.heap.size ≤ q); have HB := Lib.hid hb; have HC := Lib.hid (Kd.C_below h1 hb); have HD := Lib.hid (Kd.C_below h2 hb); clear hbox hg hb h1 h2)
  go_wp2_with (first | (go_at_call 69; (with_reducible refine (HO1.out _ HD.out).mono ?_); rintro e w1 ⟨rfl, hb⟩; have n1_ := Lib.hid (below_step HB.out hb); have n2_ := Lib.hid (blk_below BQ.out hb); have n3_ := Lib.hid (Kd.C_below HC.out hb); have n4_ := Lib.hid (Kd.C_below HD.out hb); clear HB BQ HC HD; have HB := n1_; have BQ := n2_; have HC := n3_; have HD := n4_; clear n1_ n2_ n3_ n4_ hb) | (go_at_call 69; (with_reducible refine (HO2.out _ HD.out).mono ?_); rintro e w2 ⟨rfl, hb⟩; have n1_ := Lib.hid (below_step HB.out hb); have n2_ := Lib.hid (blk_below BQ.out hb); have n3_ := Lib.hid (Kd.C_below HC.out hb); have n4_ := Lib.hid (Kd.C_below HD.out hb); clear HB BQ HC HD; have HB := n1_; have BQ := n2_; have HC := n3_; have HD := n4_; clear n1_ n2_ n3_ n4_ hb) | (go_at_call 29; (with_reducible refine (HF.out _ HC.out).mono ?_); rintro e w3 ⟨g2, c5, cs, rfl, hc5, hg2, hcs, h0, hb⟩; have NE := Lib.hid ((by have := blk_lt BQ.out; omega) : g2 ≠ q); have H5 := Lib.hid hc5; have H0 := Lib.hid h0; have BF := Lib.hid hcs; clear hc5 hg2 hcs h0; have n1_ := Lib.hid (below_step HB.out hb); have n2_ := Lib.hid (blk_below BQ.out hb); have n3_ := Lib.hid (Kd.C_below HC.out hb); have n4_ := Lib.hid (Kd.C_below HD.out hb); clear HB BQ HC HD; have HB := n1_; have BQ := n2_; have HC := n3_; have HD := n4_; clear n1_ n2_ n3_ n4_ hb) | (go_at_call 70; (with_reducible refine (proven_no _ _ _).mono ?_); rintro e w4 ⟨rfl, hb⟩; have n1_ := Lib.hid (below_step (below_alloc HB.out _) hb); have n2_ := Lib.hid (blk_below (blk_alloc BQ.out _) hb); have n5_ := Lib.hid (blk_below (blk_alloc BF.out _) hb); clear HB BQ BF HC HD hb; have HB := n1_; have BQ := n2_; have BF := n5_; clear n1_ n2_ n5_; have c60 := (blk_cell BQ.out 0).trans rfl; have f60 := blk_frozen BQ.out 0; have c61 := (blk_cell BQ.out 1).trans rfl; have f61 := blk_frozen BQ.out 1; have c62 := (blk_cell BQ.out 2).trans rfl; have f62 := blk_frozen BQ.out 2; have c63 := (blk_cell BQ.out 3).trans rfl; have f63 := blk_frozen BQ.out 3; have c64 := (blk_cell BQ.out 4).trans rfl; have f64 := blk_frozen BQ.out 4; have c65 := (blk_cell BQ.out 5).trans rfl; have f65 := blk_frozen BQ.out 5))
  refine bodyPost_ret (results_ctt rfl _ _ q 40 #[.string ⟨#[]⟩, .string ⟨#[]⟩, .int .i64 0, .bool false, .string ⟨#[]⟩, .slice none 0 0] (0, 0) _ rfl (put_six BQ.out _ _ _ _ _ _) Tryz.underlying40 rfl (by kernel_rfl)) rfl ?_
  exact ⟨rfl, below_six HB.out GE.out _ _ _ _ _ _⟩
end Go.Proofs.YtmimipgmhgalaaaGreatDoor.PAll
end
section
namespace Go.Proofs.YtmimipgmhgalaaaGreatDoor.PAll
open Go.RowKit Go.Proofs.YtmimipgmhgalaaaGreatDoorW.PrintWords Go.Proofs.YtmimipgmhgalaaaGreatDoorW.PrintLast Go.Proofs.YtmimipgmhgalaaaGreatDoorW.PrintMore
set_option linter.unusedVariables false
set_option linter.unusedSimpArgs false
def meantS (l5 : List ByteArray) (a1 : ByteArray) (l : List ByteArray) : List ByteArray := if a1 = ⟨#[]⟩ then l5 else l
def client_Scope.f (k : Nat) (a0_0 a0_1 : ByteArray) (a0_2 : Int) (a0_3 : Bool) (a0_4 : ByteArray) (l0_5 : List ByteArray) (a1 : ByteArray) : Option (ByteArray × Int) :=
  (urlform_Scopes.f k a1).bind fun t => if t.2 = 0 then ((urlform_Within.f k (meantS l0_5 a1 t.1) l0_5).bind fun b => if b = true then ((strings_Join.f (meantS l0_5 a1 t.1) ⟨#[32]⟩).bind fun s => some (s, 0)) else some (⟨#[]⟩, 114)) else some (⟨#[]⟩, 114)
theorem emptyS_no {a : ByteArray} (h : ¬a = ⟨#[]⟩) : (a.toList == ([] : List UInt8)) = false := by
  refine beq_eq_false_iff_ne.mpr fun h1 => h ?_
  obtain ⟨⟨l⟩⟩ := a
  rw [Lib.toList_data] at h1
  exact congrArg (fun l => (⟨⟨l⟩⟩ : ByteArray)) h1
set_option maxRecDepth 100000 in
set_option maxHeartbeats 1000000 in
theorem client_Scope.calls (k : Nat) (a0_0 a0_1 : ByteArray) (a0_2 : Int) (a0_3 : Bool) (a0_4 : ByteArray) (A0_5 : Option Addr) (c0_5 : Nat) (l0_5 : List ByteArray) (a1 : ByteArray) (r1 : ByteArray) (r2 : Int) (w : World) (hr0_5 : Kd.C Kd.string w A0_5 l0_5.length l0_5) (hc0_5 : l0_5.length ≤ c0_5)
    (h : client_Scope.f k a0_0 a0_1 a0_2 a0_3 a0_4 l0_5 a1 = some (r1, r2)) :
    Calls Tryz.prog 37 #[.agg #[.string a0_0, .string a0_1, .int .i64 a0_2, .bool a0_3, .string a0_4, .slice A0_5 l0_5.length c0_5], .string a1] w fun e w' => e = .returned (.tuple #[.string r1, .int .i64 r2]) ∧ Below w.heap.size w w' := by
  unfold client_Scope.f at h
  obtain ⟨⟨ls, e⟩, hs, h⟩ := Option.bind_eq_some_iff.1 h
  obtain ⟨n5, hn5⟩ : ∃ n, n = l0_5.length := ⟨_, rfl⟩
  have HS := Lib.hid hs
  have hsc : ∀ V : World, Calls Tryz.prog 54 #[.string a1] V fun e' w' => ∃ (A' : Option Addr) (c' n' : Nat), e' = .returned (.tuple #[.slice A' n' c', .int .i64 e]) ∧ n' = ls.length ∧ n' ≤ c' ∧ Kd.C Kd.string w' A' ls.length ls ∧ Below V.heap.size V w' := fun V => by
    refine (urlform_Scopes.calls k a1 ls e V HS.out).mono fun e' w' ⟨v, he, hR, hb⟩ => ?_
    obtain ⟨A', c', hv, hl, hC⟩ := Kd.R_reads hR
    subst hv
    exact ⟨A', c', _, he, rfl, hl, hC, hb⟩
  have HSC := Lib.hid hsc
  clear hs hsc
  by_cases he : e = 0
  · subst he
    have h1 : (urlform_Within.f k (meantS l0_5 a1 ls) l0_5).bind (fun b => if b = true then ((strings_Join.f (meantS l0_5 a1 ls) ⟨#[32]⟩).bind fun s => some (s, 0)) else some (⟨#[]⟩, 114)) = some (r1, r2) := h
    obtain ⟨b, hb, h2⟩ := Option.bind_eq_some_iff.1 h1
    have hwi : ∀ (V : World) (A' : Option Addr) (c' n' : Nat), n' = (meantS l0_5 a1 ls).length → n' ≤ c' → Kd.C Kd.string V A' (meantS l0_5 a1 ls).length (meantS l0_5 a1 ls) → Below w.heap.size w V → Calls Tryz.prog 72 #[.slice A' n' c', .slice A0_5 n5 c0_5] V fun e' w' => e' = .returned (.bool b) ∧ Below V.heap.size V w' := fun V A' c' n' h3 h4 h5 h6 => by
      subst h3
      rw [hn5]
      exact (urlform_Within.calls k A' c' _ A0_5 c0_5 l0_5 b V h5 h4 (Kd.C_below hr0_5 h6) hc0_5 hb).mono fun e' w' ⟨h7, h8⟩ => ⟨h7, h8.below⟩
    have HWI := Lib.hid hwi
    rw [← hn5]
    by_cases ha : a1 = ⟨#[]⟩
    · have hm : meantS l0_5 a1 ls = l0_5 := if_pos ha
      rw [hm] at h2 HWI
      subst ha
      have HN5 := Lib.hid hn5; have HR := Lib.hid hr0_5; have HC := Lib.hid hc0_5
      have hc5 := Lib.hid (show n5 ≤ c0_5 by rw [hn5]; exact hc0_5)
      clear hn5 hr0_5 hc0_5 hm h h1 hwi hb
      cases b with
      | true =>
        obtain ⟨s, hs, h3⟩ := Option.bind_eq_some_iff.1 (show (strings_Join.f l0_5 ⟨#[32]⟩).bind (fun s => some (s, (0 : Int))) = some (r1, r2) from h2)
        obtain ⟨rfl, rfl⟩ := Prod.mk.inj (Option.some.inj h3)
        have HJ := Lib.hid (fun (V : World) (h5 : Kd.C Kd.string V A0_5 l0_5.length l0_5) => show Calls Tryz.prog 55 #[.slice A0_5 n5 c0_5, .string ⟨#[32]⟩] V (fun e w' => e = .returned (.string s) ∧ Below V.heap.size V w') by rw [HN5.out]; exact strings_Join.calls A0_5 c0_5 l0_5 ⟨#[32]⟩ s V h5 HC.out hs)
        clear h2 h3 hs
        go_enter Tryz.func37, Tryz.ntmps37
        go_wp2_with (first | ((with_reducible refine gate_dst (N := 2) rfl ?_); refine box_event ?hg (N := 2) ?hd (cs := #[.string a0_0, .string a0_1, .int .i64 a0_2, .bool a0_3, .string a0_4, .slice A0_5 n5 c0_5]) (t := 40) ?hr ?_; (case hd => rfl); (case hg => rfl); (case hr => first | (go_simp; done) | (go_simp; rfl)); intro gb hg w3 hbox hb; have GW := Lib.hid ((by rw [hg]; exact Nat.le_refl _) : w.heap.size ≤ gb); have HX := Lib.hid hbox; have HB := Lib.hid hb; clear hg hbox hb))
        refine (HSC.out _).mono ?_
        rintro e1 w4 ⟨A1, c1, n1, rfl, hn1, hl1, hC1, hb1⟩
        have BK := Lib.hid (blk_below (g := gb) (o := .cells #[.string a0_0, .string a0_1, .int .i64 a0_2, .bool a0_3, .string a0_4, .slice A0_5 n5 c0_5] 40 (0, 0)) HX.out hb1)
        have HB2 := Lib.hid (below_step HB.out hb1)
        have hcz := (blk_cell BK.out 5).trans rfl
        have hfz := blk_frozen BK.out 5
        have HN := Lib.hid hn1; have HL := Lib.hid hl1; have HC1 := Lib.hid hC1
        clear hn1 hl1 hC1 hb1 HX HB
        go_wp2_with (first | (go_at_call 72; (with_reducible refine (HWI.out _ _ _ _ HN5.out hc5.out (Kd.C_below HR.out HB2.out) HB2.out).mono ?_); rintro e2 w5 ⟨rfl, hb2⟩; have HB9 := Lib.hid (below_step HB2.out hb2); have HB5 := Lib.hid hb2; clear hb2) | (go_at_call 55; (with_reducible refine (HJ.out _ (Kd.C_below HR.out HB9.out)).mono ?_); rintro e3 w6 ⟨rfl, hb3⟩; have HB8 := HB9; clear HB9; have HB9 := Lib.hid (below_step HB8.out hb3); clear hb3))
        go_ret2
        exact ⟨by first | rfl | (simp [*]; done), by repeat (first | (with_reducible first | exact HB9.out | apply below_alloc | apply pw_below_drewN | apply below_drew1) | exact HB9.out)⟩
      | false =>
        obtain ⟨rfl, rfl⟩ := Prod.mk.inj (Option.some.inj (show some ((⟨#[]⟩ : ByteArray), (114 : Int)) = some (r1, r2) from h2))
        clear h2
        go_enter Tryz.func37, Tryz.ntmps37
        go_wp2_with (first | ((with_reducible refine gate_dst (N := 2) rfl ?_); refine box_event ?hg (N := 2) ?hd (cs := #[.string a0_0, .string a0_1, .int .i64 a0_2, .bool a0_3, .string a0_4, .slice A0_5 n5 c0_5]) (t := 40) ?hr ?_; (case hd => rfl); (case hg => rfl); (case hr => first | (go_simp; done) | (go_simp; rfl)); intro gb hg w3 hbox hb; have GW := Lib.hid ((by rw [hg]; exact Nat.le_refl _) : w.heap.size ≤ gb); have HX := Lib.hid hbox; have HB := Lib.hid hb; clear hg hbox hb))
        refine (HSC.out _).mono ?_
        rintro e1 w4 ⟨A1, c1, n1, rfl, hn1, hl1, hC1, hb1⟩
        have BK := Lib.hid (blk_below (g := gb) (o := .cells #[.string a0_0, .string a0_1, .int .i64 a0_2, .bool a0_3, .string a0_4, .slice A0_5 n5 c0_5] 40 (0, 0)) HX.out hb1)
        have HB2 := Lib.hid (below_step HB.out hb1)
        have hcz := (blk_cell BK.out 5).trans rfl
        have hfz := blk_frozen BK.out 5
        have HN := Lib.hid hn1; have HL := Lib.hid hl1; have HC1 := Lib.hid hC1
        clear hn1 hl1 hC1 hb1 HX HB
        go_wp2_with (first | (go_at_call 72; (with_reducible refine (HWI.out _ _ _ _ HN5.out hc5.out (Kd.C_below HR.out HB2.out) HB2.out).mono ?_); rintro e2 w5 ⟨rfl, hb2⟩; have HB9 := Lib.hid (below_step HB2.out hb2); have HB5 := Lib.hid hb2; clear hb2))
        go_ret2
        exact ⟨by first | rfl | (simp [*]; done), by repeat (first | (with_reducible first | exact HB9.out | apply below_alloc | apply pw_below_drewN | apply below_drew1) | exact HB9.out)⟩
    · have hm : meantS l0_5 a1 ls = ls := if_neg ha
      rw [hm] at h2 HWI
      have hne : (a1.toList == ([] : List UInt8)) = false := emptyS_no ha
      have HN5 := Lib.hid hn5; have HR := Lib.hid hr0_5; have HC := Lib.hid hc0_5
      clear hn5 hr0_5 hc0_5 hm h h1 hwi hb
      cases b with
      | true =>
        obtain ⟨s, hs, h3⟩ := Option.bind_eq_some_iff.1 (show (strings_Join.f ls ⟨#[32]⟩).bind (fun s => some (s, (0 : Int))) = some (r1, r2) from h2)
        obtain ⟨rfl, rfl⟩ := Prod.mk.inj (Option.some.inj h3)
        have HJ := Lib.hid (fun (V : World) (A' : Option Addr) (c' n' : Nat) (h3 : n' = ls.length) (h4 : n' ≤ c') (h5 : Kd.C Kd.string V A' ls.length ls) => show Calls Tryz.prog 55 #[.slice A' n' c', .string ⟨#[32]⟩] V (fun e w' => e = .returned (.string s) ∧ Below V.heap.size V w') by subst h3; exact strings_Join.calls A' c' ls ⟨#[32]⟩ s V h5 h4 hs)
        clear h2 h3 hs
        go_enter Tryz.func37, Tryz.ntmps37
        go_wp2_with (first | ((with_reducible refine gate_dst (N := 2) rfl ?_); refine box_event ?hg (N := 2) ?hd (cs := #[.string a0_0, .string a0_1, .int .i64 a0_2, .bool a0_3, .string a0_4, .slice A0_5 n5 c0_5]) (t := 40) ?hr ?_; (case hd => rfl); (case hg => rfl); (case hr => first | (go_simp; done) | (go_simp; rfl)); intro gb hg w3 hbox hb; have GW := Lib.hid ((by rw [hg]; exact Nat.le_refl _) : w.heap.size ≤ gb); have HX := Lib.hid hbox; have HB := Lib.hid hb; clear hg hbox hb))
        refine (HSC.out _).mono ?_
        rintro e1 w4 ⟨A1, c1, n1, rfl, hn1, hl1, hC1, hb1⟩
        have BK := Lib.hid (blk_below (g := gb) (o := .cells #[.string a0_0, .string a0_1, .int .i64 a0_2, .bool a0_3, .string a0_4, .slice A0_5 n5 c0_5] 40 (0, 0)) HX.out hb1)
        have HB2 := Lib.hid (below_step HB.out hb1)
        have hcz := (blk_cell BK.out 5).trans rfl
        have hfz := blk_frozen BK.out 5
        have HN := Lib.hid hn1; have HL := Lib.hid hl1; have HC1 := Lib.hid hC1
        clear hn1 hl1 hC1 hb1 HX HB
        go_wp2_with (first | (go_at_call 72; (with_reducible refine (HWI.out _ _ _ _ HN.out HL.out HC1.out HB2.out).mono ?_); rintro e2 w5 ⟨rfl, hb2⟩; have HB9 := Lib.hid (below_step HB2.out hb2); have HB5 := Lib.hid hb2; clear hb2) | (go_at_call 55; (with_reducible refine (HJ.out _ _ _ _ HN.out HL.out (Kd.C_below HC1.out HB5.out)).mono ?_); rintro e3 w6 ⟨rfl, hb3⟩; have HB8 := HB9; clear HB9; have HB9 := Lib.hid (below_step HB8.out hb3); clear hb3))
        go_ret2
        exact ⟨by first | rfl | (simp [*]; done), by repeat (first | (with_reducible first | exact HB9.out | apply below_alloc | apply pw_below_drewN | apply below_drew1) | exact HB9.out)⟩
      | false =>
        obtain ⟨rfl, rfl⟩ := Prod.mk.inj (Option.some.inj (show some ((⟨#[]⟩ : ByteArray), (114 : Int)) = some (r1, r2) from h2))
        clear h2
        go_enter Tryz.func37, Tryz.ntmps37
        go_wp2_with (first | ((with_reducible refine gate_dst (N := 2) rfl ?_); refine box_event ?hg (N := 2) ?hd (cs := #[.string a0_0, .string a0_1, .int .i64 a0_2, .bool a0_3, .string a0_4, .slice A0_5 n5 c0_5]) (t := 40) ?hr ?_; (case hd => rfl); (case hg => rfl); (case hr => first | (go_simp; done) | (go_simp; rfl)); intro gb hg w3 hbox hb; have GW := Lib.hid ((by rw [hg]; exact Nat.le_refl _) : w.heap.size ≤ gb); have HX := Lib.hid hbox; have HB := Lib.hid hb; clear hg hbox hb))
        refine (HSC.out _).mono ?_
        rintro e1 w4 ⟨A1, c1, n1, rfl, hn1, hl1, hC1, hb1⟩
        have BK := Lib.hid (blk_below (g := gb) (o := .cells #[.string a0_0, .string a0_1, .int .i64 a0_2, .bool a0_3, .string a0_4, .slice A0_5 n5 c0_5] 40 (0, 0)) HX.out hb1)
        have HB2 := Lib.hid (below_step HB.out hb1)
        have hcz := (blk_cell BK.out 5).trans rfl
        have hfz := blk_frozen BK.out 5
        have HN := Lib.hid hn1; have HL := Lib.hid hl1; have HC1 := Lib.hid hC1
        clear hn1 hl1 hC1 hb1 HX HB
        go_wp2_with (first | (go_at_call 72; (with_reducible refine (HWI.out _ _ _ _ HN.out HL.out HC1.out HB2.out).mono ?_); rintro e2 w5 ⟨rfl, hb2⟩; have HB9 := Lib.hid (below_step HB2.out hb2); have HB5 := Lib.hid hb2; clear hb2))
        go_ret2
        exact ⟨by first | rfl | (simp [*]; done), by repeat (first | (with_reducible first | exact HB9.out | apply below_alloc | apply pw_below_drewN | apply below_drew1) | exact HB9.out)⟩
  · obtain ⟨rfl, rfl⟩ := Prod.mk.inj (Option.some.inj (show some ((⟨#[]⟩ : ByteArray), (114 : Int)) = some (r1, r2) from by rw [← h]; exact (if_neg he).symm))
    have he1 : decide (e = 0) = false := decide_eq_false he
    have HN5 := Lib.hid hn5; have HR := Lib.hid hr0_5; have HC := Lib.hid hc0_5
    rw [← hn5]
    clear h hn5 hr0_5 hc0_5
    by_cases ha : a1 = ⟨#[]⟩
    · subst ha
      go_enter Tryz.func37, Tryz.ntmps37
      go_wp2_with (first | ((with_reducible refine gate_dst (N := 2) rfl ?_); refine box_event ?hg (N := 2) ?hd (cs := #[.string a0_0, .string a0_1, .int .i64 a0_2, .bool a0_3, .string a0_4, .slice A0_5 n5 c0_5]) (t := 40) ?hr ?_; (case hd => rfl); (case hg => rfl); (case hr => first | (go_simp; done) | (go_simp; rfl)); intro gb hg w3 hbox hb; have GW := Lib.hid ((by rw [hg]; exact Nat.le_refl _) : w.heap.size ≤ gb); have HX := Lib.hid hbox; have HB := Lib.hid hb; clear hg hbox hb))
      refine (HSC.out _).mono ?_
      rintro e1 w4 ⟨A1, c1, n1, rfl, hn1, hl1, hC1, hb1⟩
      have BK := Lib.hid (blk_below (g := gb) (o := .cells #[.string a0_0, .string a0_1, .int .i64 a0_2, .bool a0_3, .string a0_4, .slice A0_5 n5 c0_5] 40 (0, 0)) HX.out hb1)
      have HB2 := Lib.hid (below_step HB.out hb1)
      have hcz := (blk_cell BK.out 5).trans rfl
      have hfz := blk_frozen BK.out 5
      have HN := Lib.hid hn1; have HL := Lib.hid hl1; have HC1 := Lib.hid hC1
      clear hn1 hl1 hC1 hb1 HX HB
      have HB9 := HB2
      go_wp2
      go_ret2
      exact ⟨by first | rfl | (simp [*]; done), by repeat (first | (with_reducible first | exact HB9.out | apply below_alloc | apply pw_below_drewN | apply below_drew1) | exact HB9.out)⟩
    · have hne : (a1.toList == ([] : List UInt8)) = false := emptyS_no ha
      go_enter Tryz.func37, Tryz.ntmps37
      go_wp2_with (first | ((with_reducible refine gate_dst (N := 2) rfl ?_); refine box_event ?hg (N := 2) ?hd (cs := #[.string a0_0, .string a0_1, .int .i64 a0_2, .bool a0_3, .string a0_4, .slice A0_5 n5 c0_5]) (t := 40) ?hr ?_; (case hd => rfl); (case hg => rfl); (case hr => first | (go_simp; done) | (go_simp; rfl)); intro gb hg w3 hbox hb; have GW := Lib.hid ((by rw [hg]; exact Nat.le_refl _) : w.heap.size ≤ gb); have HX := Lib.hid hbox; have HB := Lib.hid hb; clear hg hbox hb))
      refine (HSC.out _).mono ?_
      rintro e1 w4 ⟨A1, c1, n1, rfl, hn1, hl1, hC1, hb1⟩
      have BK := Lib.hid (blk_below (g := gb) (o := .cells #[.string a0_0, .string a0_1, .int .i64 a0_2, .bool a0_3, .string a0_4, .slice A0_5 n5 c0_5] 40 (0, 0)) HX.out hb1)
      have HB2 := Lib.hid (below_step HB.out hb1)
      have hcz := (blk_cell BK.out 5).trans rfl
      have hfz := blk_frozen BK.out 5
      have HN := Lib.hid hn1; have HL := Lib.hid hl1; have HC1 := Lib.hid hC1
      clear hn1 hl1 hC1 hb1 HX HB
      have HB9 := HB2
      go_wp2
      go_ret2
      exact ⟨by first | rfl | (simp [*]; done), by repeat (first | (with_reducible first | exact HB9.out | apply below_alloc | apply pw_below_drewN | apply below_drew1) | exact HB9.out)⟩
end Go.Proofs.YtmimipgmhgalaaaGreatDoor.PAll
end
section
namespace Go.Proofs.YtmimipgmhgalaaaGreatDoor.PAll
open Go.RowKit Go.Proofs.YtmimipgmhgalaaaGreatDoorW.PrintWords Go.Proofs.YtmimipgmhgalaaaGreatDoorW.PrintLast Go.Proofs.YtmimipgmhgalaaaGreatDoorW.PrintMore
set_option linter.unusedVariables false
set_option linter.unusedSimpArgs false
abbrev liveText : ByteArray := ⟨#[105, 100, 61, 98, 111, 120, 38, 115, 101, 99, 114, 101, 116, 61, 115, 38, 103, 114, 97, 110, 116, 115, 61, 99, 105, 98, 97, 38, 115, 99, 111, 112, 101, 61, 112, 97, 121, 10, 105, 100, 61, 116, 118, 38, 103, 114, 97, 110, 116, 115, 61, 100, 101, 118, 105, 99, 101, 10]⟩
theorem live_parse : client_Parse.f 400 liveText = some (liveL, 0, 0) := by kernel_rfl
theorem live_scope : client_Scope.f 400 ⟨#[98, 111, 120]⟩ ⟨#[115]⟩ 2 false ⟨#[]⟩ [⟨#[112, 97, 121]⟩] ⟨#[]⟩ = some (⟨#[112, 97, 121]⟩, 0) := by kernel_rfl
theorem c68_one {w : World} {g : Nat} {t : TypeId} {x : S68} (h : w.heap[g]? = some (.cells #[.string x.f0, .string x.f1] t (0, 0))) : Kd.C k68 w (some ⟨g, 0, none⟩) 1 [x] := by
  refine ⟨rfl, by omega, fun _ => ⟨_, rfl, fun j p hj => ?_⟩⟩
  rcases j with _ | j
  · obtain rfl : x = p := Option.some.inj hj
    refine ⟨_, rfl, k68_mk w x, fun i u hu => ?_⟩
    rw [← hu]
    rcases i with _ | _ | i
    · exact blk_cell h 0
    · exact blk_cell h 1
    · cases hu
  · cases hj
theorem c68_two {w : World} {g : Nat} {t : TypeId} {x y : S68} (h : w.heap[g]? = some (.cells #[.string x.f0, .string x.f1, .string y.f0, .string y.f1] t (0, 0))) : Kd.C k68 w (some ⟨g, 0, none⟩) 2 [x, y] := by
  refine ⟨rfl, by omega, fun _ => ⟨_, rfl, fun j p hj => ?_⟩⟩
  rcases j with _ | _ | j
  · obtain rfl : x = p := Option.some.inj hj
    refine ⟨_, rfl, k68_mk w x, fun i u hu => ?_⟩
    rw [← hu]
    rcases i with _ | _ | i
    · exact blk_cell h 0
    · exact blk_cell h 1
    · cases hu
  · obtain rfl : y = p := Option.some.inj hj
    refine ⟨_, rfl, k68_mk w y, fun i u hu => ?_⟩
    rw [← hu]
    rcases i with _ | _ | i
    · exact blk_cell h 2
    · exact blk_cell h 3
    · cases hu
  · cases hj
def wicketlaw11_live.f : Option Bool := some true
theorem live_num (a0 : Int) (w : World) : Calls Tryz.prog 19 #[.int .i64 a0] w fun e w' => e = .returned (.int .i64 a0) ∧ Drawn0 w w' := by
  go_enter Tryz.func19, Tryz.ntmps19
  go_wp2
  go_ret
  exact ⟨rfl, by repeat (first | exact Drawn0.refl _ | apply Drawn0.step)⟩
theorem blk_new2 (w : World) (o o' : Obj) : ((w.alloc o).alloc o').heap[w.heap.size + 1]? = some o' := by
  have h := blk_new (w.alloc o) o'
  rwa [show (w.alloc o).heap.size = w.heap.size + 1 from Array.size_push _] at h
set_option maxRecDepth 100000 in
set_option maxHeartbeats 1000000 in
theorem wicketlaw11_live.calls (r : Bool) (w : World) (h : wicketlaw11_live.f = some r) : Calls Tryz.prog 21 #[] w fun e w' => e = .returned (.bool r) ∧ Below w.heap.size w w' := by
  obtain rfl : true = r := Option.some.inj h
  clear h
  have HA2 := Lib.hid auth_yes
  have HA1 := Lib.hid auth_no
  have HSC := Lib.hid (fun (V : World) (A : Option Addr) (c : Nat) (h1 : Kd.C Kd.string V A 1 [⟨#[112, 97, 121]⟩]) (h2 : 1 ≤ c) => show Calls Tryz.prog 37 #[.agg #[.string ⟨#[98, 111, 120]⟩, .string ⟨#[115]⟩, .int .i64 2, .bool false, .string ⟨#[]⟩, .slice A 1 c], .string ⟨#[]⟩] V (fun e w' => e = .returned (.tuple #[.string ⟨#[112, 97, 121]⟩, .int .i64 0]) ∧ Below V.heap.size V w') from
    client_Scope.calls 400 ⟨#[98, 111, 120]⟩ ⟨#[115]⟩ 2 false ⟨#[]⟩ A c [⟨#[112, 97, 121]⟩] ⟨#[]⟩ _ _ V h1 h2 live_scope)
  go_enter Tryz.func21, Tryz.ntmps21
  go_wp2_with (fail)
  refine (client_Parse.calls 400 liveText liveL 0 0 _ live_parse).mono ?_
  rintro e w1 ⟨v0, rfl, hS, hb⟩
  obtain ⟨g, c, rfl, hg, _, cs1, hcs⟩ := Kd.S_form hS (by decide)
  obtain ⟨_, hc, hC⟩ := Kd.S_reads' hS
  clear hS
  have HL := Lib.hid (show (2 : Nat) ≤ c from hc)
  have HC := Lib.hid (show Kd.C k40 w1 (some ⟨g, 0, none⟩) 2 liveL from hC)
  have HB := Lib.hid hb
  obtain ⟨ad, A5, c5, hA, _, h01, _⟩ := at_T40 HC.out 0 (by omega) (by omega)
  obtain ⟨ad', A6, c6, hA', _, _, h12, _⟩ := at_T40 HC.out 1 (by omega) (by omega)
  obtain rfl : (⟨g, 0, none⟩ : Addr) = ad := Option.some.inj hA
  obtain rfl : (⟨g, 0, none⟩ : Addr) = ad' := Option.some.inj hA'
  replace h01 : w1.cell? ⟨g, 1, none⟩ = some (.string ⟨#[115]⟩) := h01
  replace h12 : w1.cell? ⟨g, 8, none⟩ = some (.int .i64 1) := h12
  have hf1 := blk_frozen hcs 1
  have hf8 := blk_frozen hcs 8
  have HX := Lib.hid hcs
  clear hA hA' hb hC hc hcs hg
  rw [show liveL.length = 2 from rfl]
  go_wp2_with (go_at_call 19; (with_reducible refine (live_num 0 _).mono ?_); rintro e w2 ⟨rfl, ⟨nd, rfl⟩⟩)
  refine (HA2.out _ _ _ _ (Kd.C_alloc (Kd.C_drewN HC.out nd) _) (c68_two (x := ⟨_, _⟩) (y := ⟨_, _⟩) (blk_new (w1.drewN nd) _)) HL.out).mono ?_
  rintro e w3 ⟨A3, c3, rfl, hc3, hC3, hb3⟩
  have HB3 := Lib.hid (below_step (below_alloc (pw_below_drewN HB.out nd) _) hb3)
  have HC3 := Lib.hid (Kd.C_below (Kd.C_alloc (Kd.C_drewN HC.out nd) _) hb3)
  have HS3 := Lib.hid hC3
  have HL3 := Lib.hid hc3
  clear hc3 hC3 hb3 HB HC h01 h12 hf1 hf8 HX
  go_wp2_with (fail)
  refine (HA1.out _ _ _ _ (Kd.C_alloc (Kd.C_alloc HC3.out _) _) (c68_one (x := ⟨_, _⟩) (blk_new2 w3 _ _)) HL.out).mono ?_
  rintro e w5 ⟨rfl, hb5⟩
  have BK := Lib.hid (blk_below (blk_alloc (blk_new w3 _) _) hb5)
  have HB5 := Lib.hid (below_step (below_alloc (below_alloc HB3.out _) _) hb5)
  have HS5 := Lib.hid (Kd.C_below (Kd.C_alloc (Kd.C_alloc HS3.out _) _) hb5)
  obtain ⟨p, hp⟩ : ∃ p, p = w3.heap.size := ⟨_, rfl⟩
  rw [← hp] at BK ⊢
  clear hb5 HB3 HC3 HS3 hp
  go_upto_region 6 with (fail)
  have BK6 := Lib.hid (blk_alloc BK.out (Obj.cells #[.string ⟨#[]⟩, .string ⟨#[]⟩, .int .i64 0, .bool false, .string ⟨#[]⟩, .slice none 0 0] 40))
  have HB6 := Lib.hid (below_alloc HB5.out (Obj.cells #[.string ⟨#[]⟩, .string ⟨#[]⟩, .int .i64 0, .bool false, .string ⟨#[]⟩, .slice none 0 0] 40))
  have HS6 := Lib.hid (Kd.C_alloc HS5.out (Obj.cells #[.string ⟨#[]⟩, .string ⟨#[]⟩, .int .i64 0, .bool false, .string ⟨#[]⟩, .slice none 0 0] 40))
  clear BK HB5 HS5
  obtain ⟨q, hq⟩ : ∃ q, q = w5.heap.size := ⟨_, rfl⟩
  rw [← hq]
  generalize hW : w5.alloc (Obj.cells #[.string ⟨#[]⟩, .string ⟨#[]⟩, .int .i64 0, .bool false, .string ⟨#[]⟩, .slice none 0 0] 40) = w6
  rw [hW] at BK6 HB6 HS6
  clear hW hq
  have h50 := blk_cell BK6.out 0
  have h51 := blk_cell BK6.out 1
  have h52 := blk_cell BK6.out 2
  have h53 := blk_cell BK6.out 3
  have h54 := blk_cell BK6.out 4
  have h55 := blk_cell BK6.out 5
  have hf0 := blk_frozen BK6.out 0
  have hf1 := blk_frozen BK6.out 1
  have hf2 := blk_frozen BK6.out 2
  have hf3 := blk_frozen BK6.out 3
  have hf4 := blk_frozen BK6.out 4
  have hf5 := blk_frozen BK6.out 5
  go_wp2_with (fail)
  refine (HSC.out _ _ _ HS6.out HL3.out).mono ?_
  rintro e w7 ⟨rfl, hb7⟩
  have BK7 := Lib.hid (blk_below BK6.out hb7)
  have HB7 := Lib.hid (below_step HB6.out hb7)
  clear h50 h51 h52 h53 h54 h55 hf0 hf1 hf2 hf3 hf4 hf5 BK6 HB6 HS6 hb7
  have h60 := (blk_cell BK7.out 0).trans rfl
  have hf0 := blk_frozen BK7.out 0
  go_wp2_with (first | (go_at_call 19; (with_reducible refine (live_num 0 _).mono ?_); rintro e w9 ⟨rfl, ⟨nd9, rfl⟩⟩) | (go_at_call 19; (with_reducible refine (live_num 112 _).mono ?_); rintro e w9 ⟨rfl, ⟨nd9, rfl⟩⟩))
  go_ret
  exact ⟨rfl, by repeat (first | (with_reducible first | exact HB7.out | apply below_alloc | apply pw_below_drewN | apply below_drew1) | exact HB7.out)⟩
end Go.Proofs.YtmimipgmhgalaaaGreatDoor.PAll
end
section
namespace Go.Proofs.YtmimipgmhgalaaaGreatDoor.PAll
open Go.RowKit Go.Proofs.YtmimipgmhgalaaaGreatDoorW.PrintWords
set_option linter.unusedVariables false
set_option linter.unusedSimpArgs false
theorem kept_grown {w wr w1 : World} {P ok : Nat → Prop} {row : Option Nat} (h : Kept w wr P) (hg : wr.grownBy w1 row) (hr : ∀ k, row = some k → ok k) (hok : ∀ k, ok k → k < w.heap.size → P k) : Kept w w1 P :=
  ⟨Nat.le_trans h.1 hg.size, fun i hi hp => (hg.block i (Nat.lt_of_lt_of_le hi h.1) (fun e => hp (hok i (hr i e.symm) hi))).trans (h.2 i hi hp)⟩
theorem lim_getD {ys : List S40} (h : ∀ x ∈ ys, x.f5.length ≤ 4000000000000) (i : Nat) : (ys.getD i z40).f5.length ≤ 4000000000000 := by
  rw [List.getD_eq_getElem?_getD]
  by_cases hi : i < ys.length
  · rw [List.getElem?_eq_getElem hi]; exact h _ (List.getElem_mem hi)
  · rw [List.getElem?_eq_none (by omega)]; simp [z40]
structure SpI (i0 : Nat) (P ok : Nat → Prop) (w0 w wr : World) (g n cap : Nat) (ys : List S40) : Prop where
  len : ys.length = n
  lim : ∀ q, i0 ≤ q → (ys.getD q z40).f5.length ≤ 4000000000000
  s : Kd.S k40 40 wr w0.heap.size ok (.slice (some ⟨g, 0, none⟩) n cap) ys
  k : Kept w wr P
  b : Below w0.heap.size w0 wr
section
variable {i0 : Nat} {P ok : Nat → Prop} {w0 w wr : World} {g n cap : Nat} {ys : List S40}
theorem SpI.len' (h : SpI i0 P ok w0 w wr g n cap ys) : n ≤ 9223372036854775807 := by
  have := (Kd.R_reads' (Kd.S_R h.s)).2.2.2.1
  rw [h.len] at this; exact this
end
structure SpJ (P okj : Nat → Prop) (w0 w wr ws : World) (g n cap j k : Nat) (ys : List S40) (u : Value) (ls : List ByteArray) (c : List Value) : Prop where
  r : Kd.R Kd.string 9 ws w0.heap.size okj u ls
  h : Kd.H k40 40 ws w0.heap.size (fun k => P k ∨ w.heap.size ≤ k) (.slice (some ⟨g, 0, none⟩) n cap) ys (j : Int) okj c
  kp : Kept w ws P
  b : Below w0.heap.size w0 ws
  l : ls.length ≤ 4000000000000 + k
  o : ∀ q, okj q → P q ∨ w.heap.size ≤ q
  f : ∀ q, ws.heap.size ≤ q → okj q
theorem SpJ.grow {P okj : Nat → Prop} {w0 w wr ws w1 : World} {g n cap j k : Nat} {ys : List S40} {u u1 : Value} {ls : List ByteArray} {c : List Value} (h : SpJ P okj w0 w wr ws g n cap j k ys u ls c)
    (ho : Kd.R Kd.string 9 w1 w0.heap.size okj u1 (ls ++ [⟨#[63, 63]⟩])) (hb : Below w0.heap.size w0 w1) (hg : ws.grownBy w1 u.ownBlock) : SpJ P okj w0 w wr w1 g n cap j (k + 1) ys u1 (ls ++ [⟨#[63, 63]⟩]) c :=
  ⟨ho, Kd.H_grown h.h hg (fun q hq => h.r.1 q hq), kept_grown h.kp hg (fun q hq => h.o q (h.r.1 q hq)) (fun q hq hlt => hq.elim id (fun h2 => by omega)), hb, by have := h.l; rw [List.length_append]; simp; omega, h.o, fun q hq => h.f q (Nat.le_trans hg.size hq)⟩
theorem SpJ.cells {P okj : Nat → Prop} {w0 w wr ws : World} {g n cap j k : Nat} {ys : List S40} {u : Value} {ls : List ByteArray} {c : List Value} (h : SpJ P okj w0 w wr ws g n cap j k ys u ls c) (hj : j < n) :
    (∀ q x, c[q]? = some x → ws.cell? ⟨g, j * 6 + q, none⟩ = some x) ∧ ∀ q, ws.frozen? ⟨g, q, none⟩ = false := by
  obtain ⟨rows, _, hraw, _, _, hcc, _⟩ := Kd.H_raw h.h (by omega) (by omega)
  refine ⟨fun q x hx => by have := hcc q x hx; rwa [Int.toNat_natCast] at this, fun q => ?_⟩
  obtain ⟨cells, hc⟩ := Kd.R_typed hraw g (by simp [Value.ownBlock])
  exact blk_frozen hc q
theorem SpJ.back {P okj : Nat → Prop} {w0 w wr ws : World} {g n cap j k : Nat} {ys : List S40} {u : Value} {ls : List ByteArray} {c : List Value} (h : SpJ P okj w0 w wr ws g n cap j k ys u ls c) (hj : j < n) (hc : c.length = 6) (hk : k ≤ 16) (hg : w0.heap.size ≤ g) (hgp : P g ∨ w.heap.size ≤ g) (hu : u.oneCell' = true) (hl : ys.length = n) (hx : ∀ q, j ≤ q → (ys.getD q z40).f5.length ≤ 4000000000000) :
    SpI (j + 1) P (fun k => P k ∨ w.heap.size ≤ k) w0 w (ws.setCells g (j * 6) [.string ⟨#[63]⟩, .string ⟨#[]⟩, .int .i64 0, .bool false, .string ⟨#[]⟩, u]) g n cap (ys.set j ⟨⟨#[63]⟩, ⟨#[]⟩, 0, false, ⟨#[]⟩, ls⟩) := by
  obtain ⟨h2, h3⟩ := Kd.H_seg h.h (by omega) (by omega) (seg := [.string ⟨#[63]⟩, .string ⟨#[]⟩, .int .i64 0, .bool false, .string ⟨#[]⟩, u]) (j := 0) (by show 0 + 6 ≤ 6; omega) (by intro q hq; simp only [List.mem_cons, List.not_mem_nil, or_false] at hq; rcases hq with rfl | rfl | rfl | rfl | rfl | rfl <;> first | rfl | exact hu)
  rw [Int.toNat_natCast, Nat.add_zero, show j * k40.sz = j * 6 from rfl] at h2 h3
  have hng : ∀ q, okj q → q ≠ g := by
    intro q hq he
    subst he
    obtain ⟨_, f, hR⟩ := h.h
    exact (hR.1 q (by simp [Value.ownBlock])).2 hq
  have hr2 : Kd.R Kd.string 9 (ws.setCells g (j * 6) [.string ⟨#[63]⟩, .string ⟨#[]⟩, .int .i64 0, .bool false, .string ⟨#[]⟩, u]) w0.heap.size okj u ls := Kd.R_step h.r (fun q hq hlt => h3.block q hlt (fun e => hng q hq (by injection e)))
  have h4 := Kd.H_back (x' := ⟨⟨#[63]⟩, ⟨#[]⟩, 0, false, ⟨#[]⟩, ls⟩) (okp := okj) h2 (by
    rw [show (c.take 0 ++ [Value.string ⟨#[63]⟩, .string ⟨#[]⟩, .int .i64 0, .bool false, .string ⟨#[]⟩, u] ++ c.drop (0 + [Value.string ⟨#[63]⟩, .string ⟨#[]⟩, .int .i64 0, .bool false, .string ⟨#[]⟩, u].length)) = [Value.string ⟨#[63]⟩, .string ⟨#[]⟩, .int .i64 0, .bool false, .string ⟨#[]⟩, u] from by
      rw [List.drop_eq_nil_of_le (by rw [hc]; simp)]; rfl]
    exact k40_mkM _ _ _ ⟨⟨#[63]⟩, ⟨#[]⟩, 0, false, ⟨#[]⟩, ls⟩ hr2) (fun _ hq => hq)
  rw [Int.toNat_natCast] at h4
  refine ⟨by rw [List.length_set]; exact hl, fun q hq => ?_, h4, kept_grown (ok := fun k => P k ∨ w.heap.size ≤ k) h.kp h3 (fun k hk => by cases hk; exact hgp) (fun q hq hlt => hq.elim id (fun h2 => by omega)), h.b.grown h3 h.b.size (fun k hk => by cases hk; exact hg)⟩
  rw [List.getD_eq_getElem?_getD, List.getElem?_set_ne (by omega), ← List.getD_eq_getElem?_getD]
  exact hx q (by omega)
theorem spi_put {P : Nat → Prop} {w0 w wr w1 : World} {g n cap i k g5 : Nat} {ys : List S40} {x' : S40} (h : SpI 0 P P w0 w wr g n cap ys)
    (hS : Kd.S k40 40 w1 w0.heap.size P (.slice (some ⟨g, 0, none⟩) n cap) (ys.set i x')) (hg : wr.grownBy w1 (some g5)) (hp : P g5) (hb : w0.heap.size ≤ g5) (hx : x'.f5.length = (ys.getD i z40).f5.length) : SpI 0 P P w0 w w1 g n cap (ys.set i x') := by
  refine ⟨by rw [List.length_set]; exact h.len, fun q hq => ?_, hS, kept_grown h.k hg (fun k hk => by cases hk; exact hp) (fun _ hk _ => hk), ?_⟩
  · by_cases e : q = i
    · subst e
      by_cases hi : q < ys.length
      · rw [List.getD_eq_getElem?_getD, List.getElem?_set_self hi]
        show x'.f5.length ≤ _
        rw [hx]; exact h.lim q hq
      · rw [List.getD_eq_getElem?_getD, List.getElem?_eq_none (by rw [List.length_set]; omega)]
        simp [z40]
    · rw [List.getD_eq_getElem?_getD, List.getElem?_set_ne (Ne.symm e), ← List.getD_eq_getElem?_getD]
      exact h.lim q hq
  · exact h.b.grown hg h.b.size (fun k hk => by cases hk; exact hb)
set_option maxHeartbeats 4000000 in
set_option maxRecDepth 100000 in
theorem wicketlaw11_spoil.calls (P : Nat → Prop) (v : Value) (xs : List S40) (w0 w : World) (hL : ∀ x ∈ xs, x.f5.length ≤ 4000000000000) (hB : Below w0.heap.size w0 w) (hS : Kd.S k40 40 w w0.heap.size P v xs) :
    Calls Tryz.prog 28 #[v] w fun e w' => e = .returned (.tuple #[]) ∧ Below w0.heap.size w0 w' ∧ Kept w w' P := by
  by_cases h0 : xs = []
  · subst h0
    obtain ⟨A, c, rfl⟩ := Kd.S_slice hS
    have HB := Lib.hid hB
    clear hB hS
    go_enter Tryz.func28, Tryz.ntmps28
    go_wp2
    refine wp_loop_rounds 1 ?_
    rw [rounds_succ]
    go_wp2
    refine wp_loop_rounds 1 ?_
    rw [rounds_succ]
    go_wp2
    go_end0
    exact ⟨rfl, HB.out, Nat.le_refl _, fun _ _ _ => rfl⟩
  · obtain ⟨g, cap, rfl, hg, _⟩ := Kd.S_form hS (List.length_pos_iff.2 h0)
    obtain ⟨n, hn⟩ : ∃ n, xs.length = n := ⟨_, rfl⟩
    rw [hn] at hS
    have hI : SpI 0 P P w0 w w g n cap xs := ⟨hn, fun q _ => lim_getD hL q, hS, ⟨Nat.le_refl _, fun _ _ _ => rfl⟩, hB⟩
    have hnm := hI.len'
    have HG := Lib.hid (show P g from (Kd.S_R hS).1 g (by simp [Value.ownBlock]))
    rw [hn]
    clear hS hB h0 hn hL
    go_enter Tryz.func28, Tryz.ntmps28
    go_wp2
    go_loopw [2, 3] (fun v2 _ wr => ∃ (i : Nat) (ys : List S40), i ≤ n ∧ v2 = .int .i64 (i : Int) ∧ SpI 0 P P w0 w wr g n cap ys) (fun v2 _ _ => n - (intOf v2).toNat)
    case atStart => exact ⟨0, xs, Nat.zero_le _, rfl, hI⟩
    case round =>
      clear hI
      obtain ⟨i, ys, hi, rfl, hI⟩ := hrel
      by_cases hlt : i < n
      · obtain ⟨m, hm⟩ : ∃ m, (ys.getD i z40).f5.length = m := ⟨_, rfl⟩
        go_wp2
        go_loopw [3] (fun v3 ws => ∃ (k : Nat) (zs : List S40), k ≤ m ∧ v3 = .int .i64 (k : Int) ∧ (zs.getD i z40).f5.length = m ∧ SpI 0 P P w0 w ws g n cap zs) (fun v3 _ => m - (intOf v3).toNat)
        case atStart => exact ⟨0, ys, Nat.zero_le _, rfl, hm, hI⟩
        case round =>
          clear hI hm
          obtain ⟨k, zs, hk, rfl, hm, hI⟩ := hrel
          obtain ⟨oki, c, hcl, hM, hcc, hoki, hback⟩ := Kd.S_borrow hI.s z40 (i : Int) (by omega) (by omega)
          obtain ⟨v5, rfl, hR⟩ := k40_openM hM
          simp only [Int.toNat_natCast] at hM hcc hR hback
          have c5 := hcc 5 v5 rfl
          rw [add_plain, show i * k40.sz + 5 = i * 6 + 5 from rfl] at c5
          obtain ⟨A5, cap5, rfl⟩ := Kd.R_slice hR
          have hml : m ≤ 4000000000000 := by rw [← hm]; exact hI.lim i (Nat.zero_le _)
          by_cases hkt : k < m
          · obtain ⟨g5, cap5', hv, hg5, hlt5, cells5, hc5⟩ := Kd.R_form hR (by omega)
            injection hv with hA _ hcap
            subst hA hcap
            have hcell := (Kd.R_celln ByteArray.empty hR (k : Int) (by omega) (by omega)).1
            have hfz := (Kd.R_celln ByteArray.empty hR (k : Int) (by omega) (by omega)).2
            have hput := Kd.R_put hR (k : Int) ⟨#[63]⟩
            have hrow := hR.1
            rw [hm] at c5 hR
            simp only [Int.toNat_natCast] at hcell hfz hput
            have hp5 : P g5 ∧ some g5 ≠ (Value.slice (some ⟨g, 0, none⟩) n cap).ownBlock := hoki g5 (hrow g5 rfl)
            have hnew := hback hput.2 (fun q hq => by cases hq; exact hrow g5 rfl) (k40_mkM _ _ _ { zs.getD i z40 with f5 := (zs.getD i z40).f5.set k ⟨#[63]⟩ } hput.1)
            have hnext := spi_put (k := k) hI hnew hput.2 hp5.1 hg5 (by simp)
            have hm' : ((zs.set i { zs.getD i z40 with f5 := (zs.getD i z40).f5.set k ⟨#[63]⟩ }).getD i z40).f5.length = m := by
              rw [List.getD_eq_getElem?_getD, List.getElem?_set_self (by rw [hI.len]; exact hlt)]
              simpa using hm
            generalize zs.set i { zs.getD i z40 with f5 := (zs.getD i z40).f5.set k ⟨#[63]⟩ } = zs' at hnext hm'
            have H1 := Lib.hid hnext; have H2 := Lib.hid hm'
            clear hI hM hback hput hm hoki hrow hR hcc hcl hg5 hlt5 hc5 hnew hnext hm' hp5
            go_wp2
            exact ⟨⟨k + 1, zs', by omega, rfl, H2.out, H1.out⟩, by simp [intOf]; omega⟩
          · have hge : decide (k < m) = false := decide_eq_false hkt
            rw [hm] at c5
            have H1 := Lib.hid hI
            clear hI hM hback hm hoki hR hcc hcl
            go_wp2
            exact ⟨⟨i + 1, zs, by omega, rfl, H1.out⟩, by simp [intOf]; omega⟩
      · have hge : decide (i < n) = false := decide_eq_false hlt
        go_wp2
        have hI2 : SpI 0 P (fun k => P k ∨ w.heap.size ≤ k) w0 w wr g n cap ys := ⟨hI.len, fun q _ => hI.lim q (Nat.zero_le _), Kd.S_mono hI.s (fun k hk => .inl hk), hI.k, hI.b⟩
        clear hI
        go_loopw [4, 5, 6] (fun v4 _ _ ws => ∃ (j : Nat) (ys : List S40), j ≤ n ∧ v4 = .int .i64 (j : Int) ∧ SpI j P (fun k => P k ∨ w.heap.size ≤ k) w0 w ws g n cap ys) (fun v4 _ _ _ => n - (intOf v4).toNat)
        case atStart => exact ⟨0, ys, Nat.zero_le _, rfl, hI2⟩
        case round =>
          clear hI2
          obtain ⟨j, ys, hj, rfl, hI⟩ := hrel
          by_cases hjt : j < n
          · obtain ⟨okj, c, hcl, hM, hcc, hfz, hokj, hH⟩ := Kd.S_elem hI.s z40 (j : Int) (by omega) (by omega)
            obtain ⟨v5, rfl, hR⟩ := k40_openM hM
            simp only [Int.toNat_natCast] at hM hcc hR hH
            have c5 := hcc 5 v5 rfl
            rw [show j * k40.sz + 5 = j * 6 + 5 from rfl] at c5
            obtain ⟨A5, cap5, rfl⟩ := Kd.R_slice hR
            have hm := hI.lim j (Nat.le_refl _)
            have hJ : SpJ P (fun k => okj k ∨ (P k ∨ w.heap.size ≤ k) ∧ wr.heap.size ≤ k) w0 w wr wr g n cap j 0 ys (.slice A5 (ys.getD j z40).f5.length cap5) (ys.getD j z40).f5 _ :=
              ⟨Kd.R_mono hR (fun k hk => .inl hk), Kd.H_widen hH, hI.k, hI.b, by omega, fun q hq => hq.elim (fun h => (hokj q h).1) (fun h => h.1), fun q hq => .inr ⟨.inr (Nat.le_trans hI.k.1 hq), hq⟩⟩
            generalize (fun k => okj k ∨ (P k ∨ w.heap.size ≤ k) ∧ wr.heap.size ≤ k) = oki at hJ
            have hlen := hI.len
            have hlim := hI.lim
            generalize ys.getD j z40 = x at *
            have H4 := Lib.hid hJ; have H6 := Lib.hid hfz; have H7 := Lib.hid hlen; have H8 := Lib.hid hlim
            clear hI hM hH hR hokj hfz hcc hcl hm hJ hlen hlim
            go_wp2
            go_loopw [5, 6] (fun v5 v6 ws => ∃ (k : Nat) (ls : List ByteArray), k ≤ 16 ∧ v6 = .int .i64 (k : Int) ∧ SpJ P oki w0 w wr ws g n cap j k ys v5 ls [.string x.f0, .string x.f1, .int .i64 x.f2, .bool x.f3, .string x.f4, .slice A5 x.f5.length cap5]) (fun _ v6 _ => 16 - (intOf v6).toNat)
            case atStart => exact ⟨0, x.f5, Nat.zero_le _, rfl, H4.out⟩
            case round =>
              clear H4 c5
              obtain ⟨k, ls, hk, rfl, hJ⟩ := hrel
              obtain ⟨A, cA, rfl⟩ := Kd.R_slice hJ.r
              have HJ := Lib.hid hJ
              clear hJ
              by_cases hkt : k < 16
              · go_wp2_with (first | ((with_reducible refine gate_builtin (b := .append) (xs := #[.tmp 45, .tmp 46]) rfl ?_); at_builtin; refine Kd.R_append Kd.string (w0 := w0) w0.heap.size rfl (.tmp 45) (.tmp 46) 38 9 (.string ⟨#[]⟩) 16 rfl Tryz.underlying38 info9 rfl (by decide) (by omega) (.slice A ls.length cA) ls ⟨#[63, 63]⟩ [.string ⟨#[63, 63]⟩] oki (fun _ => False) rfl rfl ?aP (fun _ hk => hk.elim) ?aF ?aO ?aB ?aS ?aL ?_; (case aP => exact rfl); (case aB => exact HJ.out.b); (case aF => exact HJ.out.f); (case aO => exact HJ.out.r); (case aS => exact HJ.out.b.size); (case aL => have := HJ.out.l; omega); intro v1 w1 ho hb hg hat; have HK := Lib.hid (HJ.out.grow ho hb hg); clear ho hb hg hat))
                exact ⟨⟨k + 1, _, by omega, rfl, HK.out⟩, by simp [intOf]; omega⟩
              · have hge : decide (k < 16) = false := decide_eq_false hkt
                obtain ⟨hcell, hfr⟩ := HJ.out.cells hjt
                have s0 := hcell 0 _ rfl; have s1 := hcell 1 _ rfl; have s2 := hcell 2 _ rfl; have s3 := hcell 3 _ rfl; have s4 := hcell 4 _ rfl; have s5 := hcell 5 _ rfl
                have f0 := hfr (j * 6 + 0); have f1 := hfr (j * 6 + 1); have f2 := hfr (j * 6 + 2); have f3 := hfr (j * 6 + 3); have f4 := hfr (j * 6 + 4); have f5 := hfr (j * 6 + 5)
                simp only [Nat.add_zero] at s0 f0
                clear hcell hfr
                go_wp2
                exact ⟨⟨j + 1, _, by omega, rfl, HJ.out.back hjt rfl hk hg (.inl HG.out) rfl H7.out H8.out⟩, by simp [intOf]; omega⟩
          · have hge : decide (j < n) = false := decide_eq_false hjt
            have H1 := Lib.hid hI
            clear hI
            go_wp2
            go_end0
            exact ⟨rfl, H1.out.b, H1.out.k⟩
end Go.Proofs.YtmimipgmhgalaaaGreatDoor.PAll
end
section
namespace Go.Proofs.YtmimipgmhgalaaaGreatDoor.PAll
open Go.RowKit Go.Proofs.YtmimipgmhgalaaaGreatDoorW.PrintWords Go.Proofs.YtmimipgmhgalaaaGreatDoorW.PrintLast Go.Proofs.YtmimipgmhgalaaaGreatDoorW.PrintMore
set_option linter.unusedVariables false
set_option linter.unusedSimpArgs false
def wicketlaw11_ClientParses.f (k : Nat) (a0 : ByteArray) : Option Bool :=
  (client_Parse.f k a0).bind fun x => (wicketref11_Parse.f k a0).bind fun y => (wicketlaw11_list.f k x.1 y.1).bind fun t =>
    if (∀ z, z ∈ x.1 → z.f5.length ≤ 4000000000000) ∧ x.2.1 = y.2.1 ∧ x.2.2 = y.2.2 ∧ t = true then some true else none
set_option maxRecDepth 100000 in
set_option maxHeartbeats 1000000 in
theorem wicketlaw11_ClientParses.calls (k : Nat) (a0 : ByteArray) (r : Bool) (w : World) (h : wicketlaw11_ClientParses.f k a0 = some r) :
    Calls Tryz.prog 7 #[.string a0] w fun e w' => e = .returned (.bool r) ∧ Below w.heap.size w w' := by
  obtain ⟨⟨l, er, sp⟩, h1, h⟩ := Option.bind_eq_some_iff.1 h
  obtain ⟨⟨m, er', sp'⟩, h2, h⟩ := Option.bind_eq_some_iff.1 h
  obtain ⟨t, h3, h⟩ := Option.bind_eq_some_iff.1 h
  dsimp only at h h3
  simp only [Option.ite_none_right_eq_some, Option.some.injEq] at h
  obtain ⟨⟨hlen, rfl, rfl, rfl⟩, rfl⟩ := h
  have K1 := Lib.hid h1
  have K2 := Lib.hid h2
  have K3 := Lib.hid h3
  have KL := Lib.hid hlen
  have HV := Lib.hid (fun V : World => wicketlaw11_live.calls true V rfl)
  clear h1 h2 h3 hlen
  go_enter Tryz.func7, Tryz.ntmps7
  go_wp2_with (fail)
  refine (client_Parse.calls k a0 l er sp _ K1.out).mono ?_
  rintro _ w1 ⟨vl, rfl, hS1, hb1⟩
  obtain ⟨A1, c1, rfl⟩ := Kd.S_slice hS1
  have HS1 := Lib.hid (Kd.S_mono (Kd.S_bound hS1) (ok' := fun k => k < w1.heap.size) (fun _ hk => hk.2.2.1))
  have HB1 := Lib.hid hb1
  clear hS1 hb1
  go_wp2_with (fail)
  refine (client_Parse.calls k a0 l er sp _ K1.out).mono ?_
  rintro _ w2 ⟨vm, rfl, hS2, hb2⟩
  obtain ⟨A2, c2, rfl⟩ := Kd.S_slice hS2
  have HM2 := Lib.hid (Kd.S_mono (Kd.S_bound hS2) (ok' := fun k => w1.heap.size ≤ k) (fun _ hk => hk.2.1))
  have HS2 := Lib.hid (Kd.S_below HS1.out hb2)
  have HB2 := Lib.hid (below_step HB1.out hb2)
  have HZ2 := Lib.hid hb2.size
  clear HS1 HB1 hS2 hb2
  go_wp2_with (fail)
  refine (wicketref11_Parse.calls k a0 m er sp _ K2.out).mono ?_
  rintro _ w3 ⟨vr, rfl, hS3, hb3⟩
  obtain ⟨A3, c3, rfl⟩ := Kd.S_slice hS3
  have HR3 := Lib.hid (Kd.S_mono (Kd.S_bound hS3) (ok' := fun k => w1.heap.size ≤ k) (fun _ hk => Nat.le_trans HZ2.out hk.2.1))
  have HS3 := Lib.hid (Kd.S_below HS2.out hb3)
  have HM3 := Lib.hid (Kd.S_below HM2.out hb3)
  have HB3 := Lib.hid (below_step HB2.out hb3)
  clear HS2 HB2 HM2 hS3 hb3
  go_wp2_with (go_at_call 19; (with_reducible refine (live_num er _).mono ?_); rintro _ w4 ⟨rfl, ⟨nd, rfl⟩⟩)
  refine (wicketlaw11_list.calls k A1 c1 l A3 c3 m true _ (by repeat (first | exact (Kd.S_reads' HS3.out).2.2 | apply Kd.C_drewN)) (Kd.S_reads' HS3.out).2.1 (by repeat (first | exact (Kd.S_reads' HR3.out).2.2 | apply Kd.C_drewN)) (Kd.S_reads' HR3.out).2.1 K3.out).mono ?_
  rintro _ w5 ⟨rfl, hb5⟩
  have HS5 := Lib.hid (Kd.S_below (Kd.S_drewN HS3.out _) hb5)
  have HM5 := Lib.hid (Kd.S_below (Kd.S_drewN HM3.out _) hb5)
  have HR5 := Lib.hid (Kd.S_below (Kd.S_drewN HR3.out _) hb5)
  have HB5 := Lib.hid (below_step (pw_below_drewN HB3.out _) hb5)
  clear HS3 HM3 HR3 HB3 hb5
  go_wp2_with (fail)
  refine (wicketlaw11_list.calls k A2 c2 l A3 c3 m true _ (Kd.S_reads' HM5.out).2.2 (Kd.S_reads' HM5.out).2.1 (Kd.S_reads' HR5.out).2.2 (Kd.S_reads' HR5.out).2.1 K3.out).mono ?_
  rintro _ w6 ⟨rfl, hb6⟩
  have HS6 := Lib.hid (Kd.S_below HS5.out hb6)
  have HM6 := Lib.hid (Kd.S_below HM5.out hb6)
  have HR6 := Lib.hid (Kd.S_below HR5.out hb6)
  have HB6 := Lib.hid (below_step HB5.out hb6)
  clear HS5 HM5 HR5 HB5 hb6
  go_wp2_with (fail)
  refine (wicketlaw11_spoil.calls (fun k => k < w1.heap.size) _ l w _ KL.out HB6.out HS6.out).mono ?_
  rintro _ w7 ⟨rfl, hb7, hk7⟩
  have HM7 := Lib.hid (Kd.S_step HM6.out (fun k hk hlt => hk7.2 k hlt (by omega)))
  have HR7 := Lib.hid (Kd.S_step HR6.out (fun k hk hlt => hk7.2 k hlt (by omega)))
  have HB7 := Lib.hid hb7
  clear HS6 HM6 HR6 HB6 hb7 hk7
  go_wp2_with (fail)
  refine (client_Parse.calls k a0 l er sp _ K1.out).mono ?_
  rintro _ w8 ⟨vk, rfl, hS8, hb8⟩
  obtain ⟨A8, c8, rfl⟩ := Kd.S_slice hS8
  have HK8 := Lib.hid hS8
  have HM8 := Lib.hid (Kd.S_below HM7.out hb8)
  have HR8 := Lib.hid (Kd.S_below HR7.out hb8)
  have HB8 := Lib.hid (below_step HB7.out hb8)
  clear HM7 HR7 HB7 hS8 hb8
  go_wp2_with (fail)
  refine (wicketlaw11_list.calls k A2 c2 l A3 c3 m true _ (Kd.S_reads' HM8.out).2.2 (Kd.S_reads' HM8.out).2.1 (Kd.S_reads' HR8.out).2.2 (Kd.S_reads' HR8.out).2.1 K3.out).mono ?_
  rintro _ w9 ⟨rfl, hb9⟩
  have HK9 := Lib.hid (Kd.S_below HK8.out hb9)
  have HR9 := Lib.hid (Kd.S_below HR8.out hb9)
  have HB9 := Lib.hid (below_step HB8.out hb9)
  clear HK8 HM8 HR8 HB8 hb9
  go_wp2_with (go_at_call 19; (with_reducible refine (live_num er _).mono ?_); rintro _ w10 ⟨rfl, ⟨nd10, rfl⟩⟩)
  refine (wicketlaw11_list.calls k A8 c8 l A3 c3 m true _ (by repeat (first | exact (Kd.S_reads' HK9.out).2.2 | apply Kd.C_drewN)) (Kd.S_reads' HK9.out).2.1 (by repeat (first | exact (Kd.S_reads' HR9.out).2.2 | apply Kd.C_drewN)) (Kd.S_reads' HR9.out).2.1 K3.out).mono ?_
  rintro _ w11 ⟨rfl, hb11⟩
  have HB11 := Lib.hid (below_step (pw_below_drewN HB9.out _) hb11)
  clear HK9 HR9 HB9 hb11
  go_wp2_with (fail)
  refine (HV.out _).mono ?_
  rintro _ w12 ⟨rfl, hb12⟩
  have HB12 := Lib.hid (below_step HB11.out hb12)
  clear HB11 hb12
  go_wp2_with (fail)
  go_ret
  exact ⟨rfl, by repeat (first | (with_reducible first | exact HB12.out | apply below_alloc | apply pw_below_drewN | apply below_drew1) | exact HB12.out)⟩
end Go.Proofs.YtmimipgmhgalaaaGreatDoor.PAll
end
section
namespace Go.Proofs.YtmimipgmhgalaaaGreatDoor.Pure
open Go.RowKit Go.Proofs.YtmimipgmhgalaaaGreatDoorW.PrintWords Go.Proofs.YtmimipgmhgalaaaGreatDoor.Plain Go.Proofs.YtmimipgmhgalaaaGreatDoor.PAll
set_option linter.unusedVariables false
theorem ClientParses (a : ByteArray) (ok : a.size ≤ 140737488351232) : ∃ k, wicketlaw11_ClientParses.f k a = some true := by
  refine Ev.rounds ?_
  have hs := regS_small a.data.toList
  unfold wicketlaw11_ClientParses.f
  refine Ev.bind (prog_ev a) (Ev.bind (ref_ev a) (Ev.bind (list_ev _ hs) ?_))
  exact Ev.pos ⟨hs.2, rfl, rfl, rfl⟩ (Ev.now _)
end Go.Proofs.YtmimipgmhgalaaaGreatDoor.Pure
end
section
namespace Go.Proofs.YtmimipgmhgalaaaGreatDoor.Open
open Go.ChangeShapes Go.WideShapes Go.ChangeAt Go.RowKit Go.Proofs.YtmimipgmhgalaaaGreatDoorW.PrintWords
def Opens {α : Type} (P : Program) (T : TypeId) (d : Kd α) (m : α → Nat) (ok : α → Prop) : Prop :=
  ∀ (H : Type) (enc : TypeId × Value → H) (w : World) (base : Nat) (spare : Nat → Bool) (held : Bool) (fuel : Nat) (cs : List Value) (x : DataW H × List MemPlace),
    DataW.trod enc P w base spare held fuel T cs = some x → ∃ a, d.K w a cs ∧ m a ≤ Rows.uptoBulk x.1 ∧ ((DataW.weights P T x.1).all (· ≤ reachBytes) = true → ok a)
theorem opens_string {P : Program} {T : TypeId} (hu : P.underlying T = some .string) : Opens P T Kd.string (fun s => s.size + 1) (fun s => s.size ≤ 140737488351232) := by
  intro H enc w base spare held fuel cs x h
  obtain ⟨s, rfl, rfl, _⟩ := DataW.trod_string hu h
  refine ⟨s, rfl, ?_, fun hw => ?_⟩
  · simp [Rows.uptoBulk]
  · simp only [DataW.weights, List.all_cons, List.all_nil, Bool.and_true, reachBytes, Array.length_toList] at hw
    exact of_decide_eq_true hw
theorem arg_string {H : Type} {enc : TypeId × Value → H} {P : Program} {W : World} {base b0 : Nat} {r : Reach} {spare : Nat → Bool} {held : Bool} {T : TypeId} {v : Value} {x : DataW H} {ps : List MemPlace}
    (hu : P.underlying T = some .string) (hv : Value.okWide P W r b0 T v) (h : DataW.Trod enc P W base spare held T v x ps) :
    ∃ s : ByteArray, v = .string s ∧ s.size + 1 ≤ Rows.uptoBulk x ∧ ((DataW.weights P T x).all (· ≤ reachBytes) = true → s.size ≤ 140737488351232) := by
  obtain ⟨s, rfl⟩ := okWide_string hu hv
  obtain ⟨fuel, hf⟩ := h
  obtain ⟨l, hcs, hm, hok⟩ := opens_string hu H enc W base spare held fuel _ _ hf
  have e : s = l := by
    have h2 : [Value.string s] = [Value.string l] := hcs
    injection h2 with h2
    injection h2
  subst e
  exact ⟨s, rfl, hm, hok⟩
theorem trod_lt' {H : Type} {enc : TypeId × Value → H} {P : Program} {W : World} {spare : Nat → Bool} {held : Bool} {T : TypeId} {v : Value} {x : DataW H} {ps : List MemPlace}
    (h : DataW.Trod enc P W 0 spare held T v x ps) : ∀ y ∈ ps, y.block < W.heap.size := by
  obtain ⟨m, hm⟩ := h
  exact DataW.trod_lt m _ _ _ hm
end Go.Proofs.YtmimipgmhgalaaaGreatDoor.Open
end
