/-
  Part 4 of what the proof of ClientWelcome leans on: words of the print, walks of functions and plain laws; put together by pack.py, a program of this session.
-/
import Derived.Laws.BitsLemmas
import Derived.Laws.Rows
import Derived.IntWalk
import Derived.KernelRfl
import Derived.Deep.RegionWith
import Derived.Outline
import Derived.Test.YtmimipgmhgalaaaGreatDoorKClientWelcomec
section
namespace Go.Proofs.YtmimipgmhgalaaaGreatDoor.PAll
open Go.RowKit Go.Proofs.YtmimipgmhgalaaaGreatDoorW.PrintWords Go.Proofs.YtmimipgmhgalaaaGreatDoorW.PrintLast Go.Proofs.YtmimipgmhgalaaaGreatDoorW.PrintMore
attribute [local go_sem] max2_int min2_int max_two min_two max_three min_three max_four min_four
set_option linter.unusedVariables false
set_option linter.unusedSimpArgs false
mutual
def wicketref11_six.j0 : Nat → Int → Bool → Option (Int)
  | 0, _, _ => none
  | k + 1, x0, x3 => if x3 = true then (some ((x0 - 65) % 256)) else (if x0 ≥ 97 then (wicketref11_six.j1 k x0 (decide (x0 ≤ 122))) else (wicketref11_six.j1 k x0 false))
def wicketref11_six.j1 : Nat → Int → Bool → Option (Int)
  | 0, _, _ => none
  | k + 1, x0, x13 => if x13 = true then (some (((x0 - 97) % 256) + 26)) else (if x0 ≥ 48 then (wicketref11_six.j2 k x0 (decide (x0 ≤ 57))) else (wicketref11_six.j2 k x0 false))
def wicketref11_six.j2 : Nat → Int → Bool → Option (Int)
  | 0, _, _ => none
  | k + 1, x0, x24 => if x24 = true then (some (((x0 - 48) % 256) + 52)) else (if x0 = 43 then (some 62) else (if x0 = 47 then (some 63) else (some (-1))))
end
def wicketref11_six.f (k : Nat) (a0 : Int) : Option (Int) := if a0 ≥ 65 then (wicketref11_six.j0 k a0 (decide (a0 ≤ 90))) else (wicketref11_six.j0 k a0 false)
theorem wicketref11_six.mono_l : ∀ k, (∀ y0 y1, LeO (wicketref11_six.j0 k y0 y1) (wicketref11_six.j0 (k + 1) y0 y1)) ∧ (∀ y0 y1, LeO (wicketref11_six.j1 k y0 y1) (wicketref11_six.j1 (k + 1) y0 y1)) ∧ (∀ y0 y1, LeO (wicketref11_six.j2 k y0 y1) (wicketref11_six.j2 (k + 1) y0 y1))
  | 0 => ⟨fun _ _ r h => by simp [wicketref11_six.j0] at h, fun _ _ r h => by simp [wicketref11_six.j1] at h, fun _ _ r h => by simp [wicketref11_six.j2] at h⟩
  | k + 1 => by
    obtain ⟨ih0, ih1, ih2⟩ := wicketref11_six.mono_l k
    refine ⟨?_, ?_, ?_⟩
    · intro y0 y1
      unfold wicketref11_six.j0
      repeat' first
      | (with_reducible exact ih0 _ _)
      | (with_reducible exact ih1 _ _)
      | (with_reducible exact ih2 _ _)
      | (with_reducible exact LeO.refl _)
      | (with_reducible exact LeO.none _)
      | (with_reducible refine LeO.ite ?_ ?_)
      | (with_reducible refine LeO.bind ?_ (fun _ => ?_))
      | exact ih0 _ _
      | exact ih1 _ _
      | exact ih2 _ _
      | exact LeO.none _
      | refine LeO.ite ?_ ?_
      | refine LeO.bind ?_ (fun _ => ?_)
    · intro y0 y1
      unfold wicketref11_six.j1
      repeat' first
      | (with_reducible exact ih0 _ _)
      | (with_reducible exact ih1 _ _)
      | (with_reducible exact ih2 _ _)
      | (with_reducible exact LeO.refl _)
      | (with_reducible exact LeO.none _)
      | (with_reducible refine LeO.ite ?_ ?_)
      | (with_reducible refine LeO.bind ?_ (fun _ => ?_))
      | exact ih0 _ _
      | exact ih1 _ _
      | exact ih2 _ _
      | exact LeO.none _
      | refine LeO.ite ?_ ?_
      | refine LeO.bind ?_ (fun _ => ?_)
    · intro y0 y1
      unfold wicketref11_six.j2
      repeat' first
      | (with_reducible exact ih0 _ _)
      | (with_reducible exact ih1 _ _)
      | (with_reducible exact ih2 _ _)
      | (with_reducible exact LeO.refl _)
      | (with_reducible exact LeO.none _)
      | (with_reducible refine LeO.ite ?_ ?_)
      | (with_reducible refine LeO.bind ?_ (fun _ => ?_))
      | exact ih0 _ _
      | exact ih1 _ _
      | exact ih2 _ _
      | exact LeO.none _
      | refine LeO.ite ?_ ?_
      | refine LeO.bind ?_ (fun _ => ?_)
theorem wicketref11_six.mono : ∀ a0 k, LeO (wicketref11_six.f k a0) (wicketref11_six.f (k + 1) a0) := by
  intro a0 k
  obtain ⟨ih0, ih1, ih2⟩ := wicketref11_six.mono_l k
  unfold wicketref11_six.f
  repeat' first
      | (with_reducible exact ih0 _ _)
      | (with_reducible exact ih1 _ _)
      | (with_reducible exact ih2 _ _)
      | (with_reducible exact LeO.refl _)
      | (with_reducible exact LeO.none _)
      | (with_reducible refine LeO.ite ?_ ?_)
      | (with_reducible refine LeO.bind ?_ (fun _ => ?_))
      | exact ih0 _ _
      | exact ih1 _ _
      | exact ih2 _ _
      | exact LeO.none _
      | refine LeO.ite ?_ ?_
      | refine LeO.bind ?_ (fun _ => ?_)
end Go.Proofs.YtmimipgmhgalaaaGreatDoor.PAll
end
section
namespace Go.Proofs.YtmimipgmhgalaaaGreatDoor.PAll
open Go.RowKit Go.Proofs.YtmimipgmhgalaaaGreatDoorW.PrintWords Go.Proofs.YtmimipgmhgalaaaGreatDoorW.PrintLast Go.Proofs.YtmimipgmhgalaaaGreatDoorW.PrintMore
attribute [local go_sem] max2_int min2_int max_two min_two max_three min_three max_four min_four
set_option linter.unusedVariables false
set_option linter.unusedSimpArgs false
attribute [local go_sem] IntKind.wrap_u8
mutual
def wicketref11_decoded.j1 : Nat → ByteArray → Int → Option (ByteArray × Bool)
 | 0, _, _ => none
 | k + 1, x0, x4 => wicketref11_decoded.l1 k x0 (wrap64 ((x0.size : Int) - x4)) ([] : List Int) 0
def wicketref11_decoded.l1 : Nat → ByteArray → Int → List Int → Int → Option (ByteArray × Bool)
 | 0, _, _, _, _ => none
 | k + 1, x0, x5, x6, x7 => if x7 < x5 then (if 0 ≤ x7 then (if x7 < (x0.size : Int) then ((wicketref11_six.f k (bt x0 x7)).bind fun t432 => (if t432 < 0 then (some ((⟨#[]⟩ : ByteArray), false)) else (wicketref11_decoded.l2 k x0 x5 x6 x7 t432 32))) else (none)) else (none)) else (wicketref11_decoded.l3 k x6 ([] : List Int))
def wicketref11_decoded.l2 : Nat → ByteArray → Int → List Int → Int → Int → Int → Option (ByteArray × Bool)
 | 0, _, _, _, _, _, _ => none
 | k + 1, x0, x5, x6, x7, x8, x9 => if x9 > 0 then (if x9 = 0 then (none) else (if x6.length < 17592186044416 then (wicketref11_decoded.l2 k x0 x5 (x6 ++ [Int.tmod (wrap64 (Int.tdiv x8 x9)) 2]) x7 x8 (wrap64 (Int.tdiv x9 2))) else (none))) else (wicketref11_decoded.l1 k x0 x5 x6 (wrap64 (x7 + 1)))
def wicketref11_decoded.l3 : Nat → List Int → List Int → Option (ByteArray × Bool)
 | 0, _, _ => none
 | k + 1, x6, x10 => if (x6.length : Int) ≥ 8 then (wicketref11_decoded.l4 k x6 x10 0 0) else (wicketref11_decoded.l5 k x6 x10 0)
def wicketref11_decoded.l4 : Nat → List Int → List Int → Int → Int → Option (ByteArray × Bool)
 | 0, _, _, _, _ => none
 | k + 1, x6, x10, x11, x12 => if x12 < 8 then (if 0 ≤ x12 then (if x12 < (x6.length : Int) then (wicketref11_decoded.l4 k x6 x10 (wrap64 ((wrap64 (2 * x11)) + (rd x6 x12))) (wrap64 (x12 + 1))) else (none)) else (none)) else (if x10.length < 140737488355328 then (if 8 ≤ (x6.length : Int) then (wicketref11_decoded.l3 k (x6.drop (8 : Int).toNat) (x10 ++ [(x11) % 256])) else (none)) else (none))
def wicketref11_decoded.l5 : Nat → List Int → List Int → Int → Option (ByteArray × Bool)
 | 0, _, _, _ => none
 | k + 1, x6, x10, x13 => if x13 < (x6.length : Int) then (if 0 ≤ x13 then (if (rd x6 x13) = 0 then (wicketref11_decoded.l5 k x6 x10 (wrap64 (x13 + 1))) else (some ((⟨#[]⟩ : ByteArray), false))) else (none)) else (some (strOfNums x10, decide ((x6.length : Int) < 6)))
def wicketref11_decoded.l0 : Nat → ByteArray → Int → Option (ByteArray × Bool)
 | 0, _, _ => none
 | k + 1, x0, x4 => if x4 < 2 then (if x4 < (x0.size : Int) then (if 0 ≤ (wrap64 ((wrap64 ((x0.size : Int) - 1)) - x4)) then (if (wrap64 ((wrap64 ((x0.size : Int) - 1)) - x4)) < (x0.size : Int) then (if (bt x0 (wrap64 ((wrap64 ((x0.size : Int) - 1)) - x4))) = 61 then (wicketref11_decoded.l0 k x0 (wrap64 (x4 + 1))) else (wicketref11_decoded.j1 k x0 x4)) else (none)) else (none)) else (wicketref11_decoded.j1 k x0 x4)) else (wicketref11_decoded.j1 k x0 x4)
end
def wicketref11_decoded.f (k : Nat) (a0 : ByteArray) : Option (ByteArray × Bool) := if ((a0.size : Int) % 4) = 0 then (wicketref11_decoded.l0 k a0 0) else (some ((⟨#[]⟩ : ByteArray), false))
end Go.Proofs.YtmimipgmhgalaaaGreatDoor.PAll
end
section
namespace Go.Proofs.YtmimipgmhgalaaaGreatDoor.PAll
open Go.RowKit Go.Proofs.YtmimipgmhgalaaaGreatDoorW.PrintWords Go.Proofs.YtmimipgmhgalaaaGreatDoorW.PrintLast Go.Proofs.YtmimipgmhgalaaaGreatDoorW.PrintMore
attribute [local go_sem] max2_int min2_int max_two min_two max_three min_three max_four min_four
set_option linter.unusedVariables false
set_option linter.unusedSimpArgs false
mutual
def wicketref11_Basic.j0 : Nat → ByteArray → ByteArray → Bool → Option (ByteArray × ByteArray × Int)
 | 0, _, _, _ => none
 | k + 1, x0, x5, x25 => if x25 = true then (some ((⟨#[]⟩ : ByteArray), (⟨#[]⟩ : ByteArray), 113)) else (wicketref11_Basic.l0 k x0 x5 0)
def wicketref11_Basic.l0 : Nat → ByteArray → ByteArray → Int → Option (ByteArray × ByteArray × Int)
 | 0, _, _, _ => none
 | k + 1, x0, x5, x6 => if x6 < 5 then (if 0 ≤ x6 then (if x6 < (x0.size : Int) then (if (bt x0 x6) ≥ 65 then (wicketref11_Basic.j2 k x0 x5 x6 (bt x0 x6) (decide ((bt x0 x6) ≤ 90))) else (wicketref11_Basic.j2 k x0 x5 x6 (bt x0 x6) false)) else (none)) else (none)) else (wicketref11_Basic.l1 k x0 5)
def wicketref11_Basic.j2 : Nat → ByteArray → ByteArray → Int → Int → Bool → Option (ByteArray × ByteArray × Int)
 | 0, _, _, _, _, _ => none
 | k + 1, x0, x5, x6, x7, x38 => if x38 = true then (if 0 ≤ x6 then (if x6 < (x5.size : Int) then (if ((((x7 - 65) % 256) + 97) % 256) = (bt x5 x6) then (wicketref11_Basic.l0 k x0 x5 (wrap64 (x6 + 1))) else (some ((⟨#[]⟩ : ByteArray), (⟨#[]⟩ : ByteArray), 113))) else (none)) else (none)) else (if 0 ≤ x6 then (if x6 < (x5.size : Int) then (if x7 = (bt x5 x6) then (wicketref11_Basic.l0 k x0 x5 (wrap64 (x6 + 1))) else (some ((⟨#[]⟩ : ByteArray), (⟨#[]⟩ : ByteArray), 113))) else (none)) else (none))
def wicketref11_Basic.j4 : Nat → ByteArray → Int → Option (ByteArray × ByteArray × Int)
 | 0, _, _ => none
 | k + 1, x0, x8 => if 0 ≤ x8 then (if x8 ≤ (x0.size : Int) then ((wicketref11_decoded.f k (x0.extract (x8 : Int).toNat x0.size)).bind fun bt444 => (if x8 = 5 then (wicketref11_Basic.j5 k bt444.1 true) else (wicketref11_Basic.j5 k bt444.1 (!bt444.2)))) else (none)) else (none)
def wicketref11_Basic.j5 : Nat → ByteArray → Bool → Option (ByteArray × ByteArray × Int)
 | 0, _, _ => none
 | k + 1, x9, x71 => if x71 = true then (some ((⟨#[]⟩ : ByteArray), (⟨#[]⟩ : ByteArray), 113)) else (wicketref11_Basic.l2 k x9 0)
def wicketref11_Basic.j7 : Nat → ByteArray → Int → Option (ByteArray × ByteArray × Int)
 | 0, _, _ => none
 | k + 1, x9, x11 => if x11 = (x9.size : Int) then (some ((⟨#[]⟩ : ByteArray), (⟨#[]⟩ : ByteArray), 113)) else (if 0 ≤ x11 then (if x11 ≤ (x9.size : Int) then ((wicketref03_Unescape.f k (x9.extract 0 (x11 : Int).toNat)).bind fun bt446 => (if 0 ≤ (wrap64 (x11 + 1)) then (if (wrap64 (x11 + 1)) ≤ (x9.size : Int) then ((wicketref03_Unescape.f k (x9.extract ((wrap64 (x11 + 1)) : Int).toNat x9.size)).bind fun bt449 => (if bt446.2.1 = 0 then (if bt449.2.1 = 0 then (some (bt446.1, bt449.1, 0)) else (some ((⟨#[]⟩ : ByteArray), (⟨#[]⟩ : ByteArray), 113))) else (some ((⟨#[]⟩ : ByteArray), (⟨#[]⟩ : ByteArray), 113)))) else (none)) else (none))) else (none)) else (none))
def wicketref11_Basic.l2 : Nat → ByteArray → Int → Option (ByteArray × ByteArray × Int)
 | 0, _, _ => none
 | k + 1, x9, x11 => if x11 < (x9.size : Int) then (if 0 ≤ x11 then (if (bt x9 x11) = 58 then (wicketref11_Basic.j7 k x9 x11) else (wicketref11_Basic.l2 k x9 (wrap64 (x11 + 1)))) else (none)) else (wicketref11_Basic.j7 k x9 x11)
def wicketref11_Basic.l1 : Nat → ByteArray → Int → Option (ByteArray × ByteArray × Int)
 | 0, _, _ => none
 | k + 1, x0, x8 => if x8 < (x0.size : Int) then (if 0 ≤ x8 then (if (bt x0 x8) = 32 then (wicketref11_Basic.l1 k x0 (wrap64 (x8 + 1))) else (wicketref11_Basic.j4 k x0 x8)) else (none)) else (wicketref11_Basic.j4 k x0 x8)
end
def wicketref11_Basic.f (k : Nat) (a0 : ByteArray) : Option (ByteArray × ByteArray × Int) := if (a0.size : Int) > 1024 then (wicketref11_Basic.j0 k a0 (⟨#[98, 97, 115, 105, 99]⟩ : ByteArray) true) else (wicketref11_Basic.j0 k a0 (⟨#[98, 97, 115, 105, 99]⟩ : ByteArray) (decide ((a0.size : Int) < 6)))
end Go.Proofs.YtmimipgmhgalaaaGreatDoor.PAll
end
section
namespace Go.Proofs.YtmimipgmhgalaaaGreatDoor.PAll
open Go.RowKit Go.Proofs.YtmimipgmhgalaaaGreatDoorW.PrintWords Go.Proofs.YtmimipgmhgalaaaGreatDoorW.PrintLast Go.Proofs.YtmimipgmhgalaaaGreatDoorW.PrintMore
attribute [local go_sem] max2_int min2_int max_two min_two max_three min_three max_four min_four
set_option linter.unusedVariables false
set_option linter.unusedSimpArgs false
end Go.Proofs.YtmimipgmhgalaaaGreatDoor.PAll
end
section
namespace Go.Proofs.YtmimipgmhgalaaaGreatDoor.PAll
open Go.RowKit Go.Proofs.YtmimipgmhgalaaaGreatDoorW.PrintWords Go.Proofs.YtmimipgmhgalaaaGreatDoorW.PrintLast Go.Proofs.YtmimipgmhgalaaaGreatDoorW.PrintMore
set_option linter.unusedVariables false
set_option linter.unusedSimpArgs false
def AuthAt (w : World) (c : List S40) (a1 : ByteArray) (l2 : List S68) (x : S40) (n er : Int) : Prop :=
  ∀ (V : World) (A B : Option Addr) (ca cb : Nat), Below w.heap.size w V → Kd.C k40 V A c.length c → c.length ≤ ca → Kd.C k68 V B l2.length l2 → l2.length ≤ cb →
    Calls Tryz.prog 34 #[.slice A c.length ca, .string a1, .slice B l2.length cb] V fun e' w' => ∃ v5 : Value, e' = .returned (.tuple #[.agg #[.string x.f0, .string x.f1, .int .i64 x.f2, .bool x.f3, .string x.f4, v5], .int .i64 n, .int .i64 er]) ∧ Kd.R Kd.string 9 w' V.heap.size (fun _ => True) v5 x.f5 ∧ Below V.heap.size V w'
end Go.Proofs.YtmimipgmhgalaaaGreatDoor.PAll
end
section
namespace Go.Proofs.YtmimipgmhgalaaaGreatDoor.PAll
open Go.RowKit Go.Proofs.YtmimipgmhgalaaaGreatDoorW.PrintWords Go.Proofs.YtmimipgmhgalaaaGreatDoorW.PrintLast Go.Proofs.YtmimipgmhgalaaaGreatDoorW.PrintMore
attribute [local go_sem] max2_int min2_int max_two min_two max_three min_three max_four min_four
set_option linter.unusedVariables false
set_option linter.unusedSimpArgs false
def digest_place.l0 : Nat → ByteArray → Int → Int → Int → Option (Int)
 | 0, _, _, _, _ => none
 | k + 1, x0, x1, x7, x8 => if x8 < x7 then (if 0 ≤ x8 then (if x8 < (x0.size : Int) then (if (bt x0 x8) = x1 then (some x8) else (digest_place.l0 k x0 x1 x7 (wrap64 (x8 + 1)))) else (none)) else (none)) else (some (-1))
def digest_place.f (k : Nat) (a0 : ByteArray) (a1 : Int) : Option (Int) := digest_place.l0 k a0 a1 (a0.size : Int) 0
set_option maxHeartbeats 8000000 in
set_option maxRecDepth 100000 in
theorem digest_place.calls (k : Nat) (a0 : ByteArray) (a1 : Int) (r : Int) (w : World) (h : digest_place.f k a0 a1 = some r) :
 Calls Tryz.prog 157 #[.string a0, .int .u8 a1] w fun e w' => e = .returned (.int .i64 r) ∧ Drawn0 w w' := by
 have H : (digest_place.l0 k a0 a1 (a0.size : Int) 0) = some r := h
 clear h
 have H' := Aside0.mk H
 clear H
 go_enter Tryz.func157, Tryz.ntmps157
 go_wp2
 go_loopg [8] k (fun kq v8 w' => ∃ (x8_1 : Int), v8 = .int .i64 x8_1 ∧ Aside0 (digest_place.l0 kq a0 a1 (a0.size : Int) x8_1 = some r) ∧ Aside0 (kq ≤ k) ∧ Drawn0 w w')
 case atStart => exact ⟨(0), rfl, H', ⟨Nat.le_refl _⟩, by repeat (exact Drawn0.refl _)⟩
 case round =>
  clear H'
  obtain ⟨x8_1, rfl, HA, HK1, ⟨m1, rfl⟩⟩ := hrel
  cases gk with
  | zero => exact absurd HA.out (by simp [digest_place.l0])
  | succ k1 =>
   have H := HA.out
   clear HA
   simp only [digest_place.l0] at H
   by_cases c3 : x8_1 < (a0.size : Int)
   · rw [if_pos c3] at H
     have c3b0 : decide (x8_1 < (a0.size : Int)) = true := decide_eq_true c3
     clear c3
     by_cases c4 : 0 ≤ x8_1
     · rw [if_pos c4] at H
       have c4b0 : decide (0 ≤ x8_1) = true := decide_eq_true c4
       clear c4
       by_cases c5 : x8_1 < (a0.size : Int)
       · rw [if_pos c5] at H
         have c5b0 : decide (x8_1 < (a0.size : Int)) = true := decide_eq_true c5
         clear c5
         by_cases c7 : (bt a0 x8_1) = a1
         · rw [if_pos c7] at H
           have c7b0 : ((bt a0 x8_1) == a1) = true := beq_iff_eq.mpr c7
           have c7b1 : ((bt a0 x8_1) != a1) = false := bne_eq_false_iff_eq.mpr c7
           clear c7
           obtain rfl := Option.some.inj H
           have p6 : 0 ≤ (x8_1 : Int) := of_decide_eq_true (by assumption)
           have q6 : x8_1 < (a0.size : Int) := of_decide_eq_true (by assumption)
           have hx6 := bt_at a0 x8_1
           replace p6 := eq_true p6
           replace q6 := eq_true q6
           go_wp2
           go_ret
           exact ⟨by (rfl), by repeat (first | exact Drawn0.refl _ | apply Drawn0.step)⟩
         · rw [if_neg c7] at H
           have c7b0 : ((bt a0 x8_1) == a1) = false := beq_eq_false_iff_ne.mpr c7
           have c7b1 : ((bt a0 x8_1) != a1) = true := bne_iff_ne.mpr c7
           have H' := Aside0.mk H
           clear H
           have p6 : 0 ≤ (x8_1 : Int) := of_decide_eq_true (by assumption)
           have q6 : x8_1 < (a0.size : Int) := of_decide_eq_true (by assumption)
           have hx6 := bt_at a0 x8_1
           replace p6 := eq_true p6
           replace q6 := eq_true q6
           go_wp2
           go_roundg k1
           case measure => have := HK1.out; omega
           case rel => exact ⟨(wrap64 (x8_1 + 1)), rfl, H', ⟨by have := HK1.out; omega⟩, by repeat (first | exact Drawn0.refl _ | apply Drawn0.step)⟩
       · rw [if_neg c5] at H
         exact absurd H (by simp)
     · rw [if_neg c4] at H
       exact absurd H (by simp)
   · rw [if_neg c3] at H
     have c3b0 : decide (x8_1 < (a0.size : Int)) = false := decide_eq_false c3
     clear c3
     obtain rfl := Option.some.inj H
     go_wp2
     go_ret
     exact ⟨by (rfl), by repeat (first | exact Drawn0.refl _ | apply Drawn0.step)⟩
def digest_values.l0 : Nat → ByteArray → ByteArray → List Int → Int → Int → Option (List Int × Int × Int)
 | 0, _, _, _, _, _ => none
 | k + 1, x0, x1, x7, x14, x15 => if x15 < x14 then (if 0 ≤ x15 then (if x15 < (x1.size : Int) then ((digest_place.f k x0 (bt x1 x15)).bind fun t186 => (if t186 < 0 then (some (([] : List Int), 20, x15)) else (if x7.length < 17592186044416 then (digest_values.l0 k x0 x1 (x7 ++ [t186]) x14 (wrap64 (x15 + 1))) else (none)))) else (none)) else (none)) else (some (x7, 0, 0))
def digest_values.f (k : Nat) (a0 : ByteArray) (a1 : ByteArray) : Option (List Int × Int × Int) := if (a1.size : Int) > 65536 then (some (([] : List Int), 1, 0)) else (digest_values.l0 k a0 a1 ([] : List Int) (a1.size : Int) 0)
set_option maxHeartbeats 8000000 in
set_option maxRecDepth 100000 in
theorem digest_values.calls (k : Nat) (a0 : ByteArray) (a1 : ByteArray) (r1 : List Int) (r2 : Int) (r3 : Int) (w : World) (h : digest_values.f k a0 a1 = some (r1, r2, r3)) :
 Calls Tryz.prog 133 #[.string a0, .string a1] w fun e w' => ∃ v0_ : Value, e = .returned (.tuple #[v0_, .int .i64 r2, .int .i64 r3]) ∧ Kd.R (Kd.int .i64) 3 w' w.heap.size (fun _ => True) v0_ r1 ∧ Below w.heap.size w w' := by
 have HB := Aside0.mk (Below.refl w.heap.size w)
 have H : (if (a1.size : Int) > 65536 then (some (([] : List Int), 1, 0)) else (digest_values.l0 k a0 a1 ([] : List Int) (a1.size : Int) 0)) = some (r1, r2, r3) := h
 clear h
 by_cases c3 : (a1.size : Int) > 65536
 · rw [if_pos c3] at H
   have c3b0 : decide (65536 < (a1.size : Int)) = true := decide_eq_true c3
   have c3b1 : decide (65536 < a1.size) = true := decide_eq_true (by omega)
   clear c3
   simp only [Option.some.injEq, Prod.mk.injEq] at H
   obtain ⟨rfl, rfl, rfl⟩ := H
   go_enter Tryz.func133, Tryz.ntmps133
   go_wp2
   go_ret3
   exact ⟨_, rfl, by (exact Kd.R_nil _ _ _ _ _), by (with_reducible exact HB.out)⟩
 · rw [if_neg c3] at H
   have c3b0 : decide (65536 < (a1.size : Int)) = false := decide_eq_false c3
   have c3b1 : decide (65536 < a1.size) = false := decide_eq_false (by omega)
   clear c3
   have H' := Aside0.mk H
   clear H
   go_enter Tryz.func133, Tryz.ntmps133
   go_wp2
   go_loopg [7, 15] k (fun kq v7 v15 w' => ∃ (x7_1 : List Int) (x15_1 : Int), v15 = .int .i64 x15_1 ∧ Aside0 (digest_values.l0 kq a0 a1 x7_1 (a1.size : Int) x15_1 = some (r1, r2, r3)) ∧ Aside0 (kq ≤ k) ∧ Aside0 (Kd.R (Kd.int .i64) 3 w' w.heap.size (fun _ => True) v7 x7_1) ∧ Aside0 (Below w.heap.size w w'))
   case atStart => exact ⟨(([] : List Int)), (0), rfl, H', ⟨Nat.le_refl _⟩, ⟨by (exact Kd.R_nil _ _ _ _ _)⟩, ⟨HB.out⟩⟩
   case round =>
    clear H' c3b0 c3b1
    obtain ⟨x7_1, x15_1, rfl, HA, HK1, HO_7, HB⟩ := hrel
    cases gk with
    | zero => exact absurd HA.out (by simp [digest_values.l0])
    | succ k1 =>
     have H := HA.out
     clear HA
     simp only [digest_values.l0] at H
     by_cases c4 : x15_1 < (a1.size : Int)
     · rw [if_pos c4] at H
       have c4b0 : decide (x15_1 < (a1.size : Int)) = true := decide_eq_true c4
       clear c4
       by_cases c5 : 0 ≤ x15_1
       · rw [if_pos c5] at H
         have c5b0 : decide (0 ≤ x15_1) = true := decide_eq_true c5
         clear c5
         by_cases c6 : x15_1 < (a1.size : Int)
         · rw [if_pos c6] at H
           have c6b0 : decide (x15_1 < (a1.size : Int)) = true := decide_eq_true c6
           clear c6
           replace H := Option.bind_eq_some_iff.mp H
           obtain ⟨t186, A80, H⟩ := H
           replace H : (if t186 < 0 then (some (([] : List Int), 20, x15_1)) else (if x7_1.length < 17592186044416 then (digest_values.l0 k1 a0 a1 (x7_1 ++ [t186]) (a1.size : Int) (wrap64 (x15_1 + 1))) else (none))) = some (r1, r2, r3) := H
           have A8 := Aside0.mk A80
           clear A80
           by_cases c9 : t186 < 0
           · rw [if_pos c9] at H
             have c9b0 : decide (t186 < 0) = true := decide_eq_true c9
             clear c9
             simp only [Option.some.injEq, Prod.mk.injEq] at H
             obtain ⟨rfl, rfl, rfl⟩ := H
             have p7 : 0 ≤ (x15_1 : Int) := of_decide_eq_true (by assumption)
             have q7 : x15_1 < (a1.size : Int) := of_decide_eq_true (by assumption)
             have hx7 := bt_at a1 x15_1
             replace p7 := eq_true p7
             replace q7 := eq_true q7
             go_wp2_with (first | ((with_reducible refine gate_callee (f := 157) rfl ?_); refine goesL_ (some 22) rfl rfl Tryz.func157 (by kernel_rfl) rfl #[.string a0, .int .u8 (bt a1 x15_1)] rfl (by ((try simp only [List.map_toArray, List.map_cons, List.map_nil]); (rfl))) ?_; (with_reducible refine (digest_place.calls k1 a0 (bt a1 x15_1) t186 _ A8.out).mono ?_); rintro e w' ⟨rfl, ⟨nd, rfl⟩⟩; refine ⟨_, rfl, ?_⟩))
             go_ret3
             exact ⟨_, rfl, by (exact Kd.R_nil _ _ _ _ _), by (repeat (with_reducible first | exact HB.out | apply pw_below_drewN))⟩
           · rw [if_neg c9] at H
             have c9b0 : decide (t186 < 0) = false := decide_eq_false c9
             clear c9
             by_cases c10 : x7_1.length < 17592186044416
             · rw [if_pos c10] at H
               have LMc10 := Aside0.mk c10
               clear c10
               obtain ⟨y187, hy187⟩ : ∃ y_ : List Int, y_ = (x7_1 ++ [t186]) := ⟨_, rfl⟩
               replace H : (digest_values.l0 k1 a0 a1 y187 (a1.size : Int) (wrap64 (x15_1 + 1))) = some (r1, r2, r3) := by (rw [hy187]; with_reducible exact H)
               have Ny187 := Aside0.mk hy187
               clear hy187
               have H' := Aside0.mk H
               clear H
               have p7 : 0 ≤ (x15_1 : Int) := of_decide_eq_true (by assumption)
               have q7 : x15_1 < (a1.size : Int) := of_decide_eq_true (by assumption)
               have hx7 := bt_at a1 x15_1
               replace p7 := eq_true p7
               replace q7 := eq_true q7
               go_wp2_with (first | ((with_reducible refine gate_callee (f := 157) rfl ?_); refine goesL_ (some 22) rfl rfl Tryz.func157 (by kernel_rfl) rfl #[.string a0, .int .u8 (bt a1 x15_1)] rfl (by ((try simp only [List.map_toArray, List.map_cons, List.map_nil]); (rfl))) ?_; (with_reducible refine (digest_place.calls k1 a0 (bt a1 x15_1) t186 _ A8.out).mono ?_); rintro e w' ⟨rfl, ⟨nd, rfl⟩⟩; refine ⟨_, rfl, ?_⟩) | ((with_reducible refine gate_builtin (b := .append) (xs := #[.tmp 26, .tmp 28]) rfl ?_); at_builtin; refine Kd.R_append (Kd.int .i64) (w0 := w) w.heap.size rfl (.tmp 26) (.tmp 28) 122 3 (.int .i64 0) 8 rfl Tryz.underlying122 info3 rfl (by decide) (by omega) u7 x7_1 t186 [.int .i64 t186] (fun _ => True) (fun _ => False) rfl rfl ?aP (fun _ hk => hk.elim) ?aF ?aO ?aB ?aS ?aL ?_; (case aP => exact rfl); (case aB => exact (by (repeat (with_reducible first | exact HB.out | apply pw_below_drewN)))); (case aF => exact (fun _ _ => trivial)); (case aO => exact (by ((with_reducible repeat (apply Kd.R_drewN)); exact HO_7.out))); (case aS => exact (below_size (by (repeat (with_reducible first | exact HB.out | apply pw_below_drewN))))); (case aL => have := LMc10.out; omega); intro v188 w11 ho hb hg hat; rw [← Ny187.out] at ho; have n0_ := Aside0.mk hb; have n1_ := Aside0.mk ho; clear HB HO_7; have HB := n0_; have HO189 := n1_; clear n0_ n1_; clear ho hb hg hat))
               go_roundg k1
               case measure => have := HK1.out; omega
               case rel => exact ⟨(y187), (wrap64 (x15_1 + 1)), rfl, H', ⟨by have := HK1.out; omega⟩, ⟨HO189.out⟩, ⟨HB.out⟩⟩
             · rw [if_neg c10] at H
               exact absurd H (by simp)
         · rw [if_neg c6] at H
           exact absurd H (by simp)
       · rw [if_neg c5] at H
         exact absurd H (by simp)
     · rw [if_neg c4] at H
       have c4b0 : decide (x15_1 < (a1.size : Int)) = false := decide_eq_false c4
       clear c4
       simp only [Option.some.injEq, Prod.mk.injEq] at H
       obtain ⟨rfl, rfl, rfl⟩ := H
       go_wp2
       go_ret3
       exact ⟨_, rfl, by ((with_reducible repeat (first | apply Kd.R_alloc  | apply Kd.R_drewN  | apply Kd.R_drew)); exact HO_7.out), by (with_reducible exact HB.out)⟩
def digest_FromBase64.l0 : Nat → ByteArray → List Int → Int → Int → List Int → Int → Int → Option (List Int × Int × Int)
 | 0, _, _, _, _, _, _, _ => none
 | k + 1, x0, x8, x9, x10, x16, x30, x31 => if x31 < x30 then (if 0 ≤ x31 then (if x31 < (x16.length : Int) then (if (wrap64 (x10 + 6)) ≥ 8 then (if 0 ≤ (wrap64 ((wrap64 (x10 + 6)) - 8)) then (if x8.length < 140737488355328 then (digest_FromBase64.l0 k x0 (x8 ++ [(shr .i64 (Go.bits .or .i64 (wrap64 (x9 * 64)) (rd x16 x31)) (wrap64 ((wrap64 (x10 + 6)) - 8))) % 256]) (Go.bits .and .i64 (Go.bits .or .i64 (wrap64 (x9 * 64)) (rd x16 x31)) (wrap64 ((shl .i64 1 (wrap64 ((wrap64 (x10 + 6)) - 8))) - 1))) (wrap64 ((wrap64 (x10 + 6)) - 8)) x16 x30 (wrap64 (x31 + 1))) else (none)) else (none)) else (digest_FromBase64.l0 k x0 x8 (Go.bits .or .i64 (wrap64 (x9 * 64)) (rd x16 x31)) (wrap64 (x10 + 6)) x16 x30 (wrap64 (x31 + 1)))) else (none)) else (none)) else (if x9 = 0 then (some (x8, 0, 0)) else (some (([] : List Int), 21, wrap64 ((x0.size : Int) - 1))))
def digest_FromBase64.f (k : Nat) (a0 : ByteArray) : Option (List Int × Int × Int) := (digest_values.f k (⟨#[65, 66, 67, 68, 69, 70, 71, 72, 73, 74, 75, 76, 77, 78, 79, 80, 81, 82, 83, 84, 85, 86, 87, 88, 89, 90, 97, 98, 99, 100, 101, 102, 103, 104, 105, 106, 107, 108, 109, 110, 111, 112, 113, 114, 115, 116, 117, 118, 119, 120, 121, 122, 48, 49, 50, 51, 52, 53, 54, 55, 56, 57, 45, 95]⟩ : ByteArray) a0).bind fun bt190 => (if bt190.2.1 = 0 then (if ((bt190.1.length : Int) % 4) = 1 then (some (([] : List Int), 3, (a0.size : Int))) else (digest_FromBase64.l0 k a0 ([] : List Int) 0 0 bt190.1 (bt190.1.length : Int) 0)) else (some (([] : List Int), bt190.2.1, bt190.2.2)))
set_option maxHeartbeats 8000000 in
set_option maxRecDepth 100000 in
theorem digest_FromBase64.calls (k : Nat) (a0 : ByteArray) (r1 : List Int) (r2 : Int) (r3 : Int) (w : World) (h : digest_FromBase64.f k a0 = some (r1, r2, r3)) :
 Calls Tryz.prog 99 #[.string a0] w fun e w' => ∃ v0_ : Value, e = .returned (.tuple #[v0_, .int .i64 r2, .int .i64 r3]) ∧ Kd.R (Kd.int .u8) 5 w' w.heap.size (fun _ => True) v0_ r1 ∧ Below w.heap.size w w' := by
 have HB := Aside0.mk (Below.refl w.heap.size w)
 have H : ((digest_values.f k (⟨#[65, 66, 67, 68, 69, 70, 71, 72, 73, 74, 75, 76, 77, 78, 79, 80, 81, 82, 83, 84, 85, 86, 87, 88, 89, 90, 97, 98, 99, 100, 101, 102, 103, 104, 105, 106, 107, 108, 109, 110, 111, 112, 113, 114, 115, 116, 117, 118, 119, 120, 121, 122, 48, 49, 50, 51, 52, 53, 54, 55, 56, 57, 45, 95]⟩ : ByteArray) a0).bind fun bt190 => (if bt190.2.1 = 0 then (if ((bt190.1.length : Int) % 4) = 1 then (some (([] : List Int), 3, (a0.size : Int))) else (digest_FromBase64.l0 k a0 ([] : List Int) 0 0 bt190.1 (bt190.1.length : Int) 0)) else (some (([] : List Int), bt190.2.1, bt190.2.2)))) = some (r1, r2, r3) := h
 clear h
 replace H := Option.bind_eq_some_iff.mp H
 obtain ⟨⟨t190, t191, t192⟩, A20, H⟩ := H
 replace H : (if t191 = 0 then (if ((t190.length : Int) % 4) = 1 then (some (([] : List Int), 3, (a0.size : Int))) else (digest_FromBase64.l0 k a0 ([] : List Int) 0 0 t190 (t190.length : Int) 0)) else (some (([] : List Int), t191, t192))) = some (r1, r2, r3) := H
 have A2 := Aside0.mk A20
 clear A20
 by_cases c3 : t191 = 0
 · rw [if_pos c3] at H
   have c3b0 : (t191 == 0) = true := beq_iff_eq.mpr c3
   have c3b1 : (t191 != 0) = false := bne_eq_false_iff_eq.mpr c3
   clear c3
   by_cases c4 : ((t190.length : Int) % 4) = 1
   · rw [if_pos c4] at H
     have c4b0 : (((t190.length : Int) % 4) == 1) = true := beq_iff_eq.mpr c4
     have c4b1 : (((t190.length : Int) % 4) != 1) = false := bne_eq_false_iff_eq.mpr c4
     clear c4
     simp only [Option.some.injEq, Prod.mk.injEq] at H
     obtain ⟨rfl, rfl, rfl⟩ := H
     go_enter Tryz.func99, Tryz.ntmps99
     go_wp2_with (first | ((with_reducible refine gate_callee (f := 133) rfl ?_); refine goesL_ (some 15) rfl rfl Tryz.func133 (by kernel_rfl) rfl #[.string (⟨#[65, 66, 67, 68, 69, 70, 71, 72, 73, 74, 75, 76, 77, 78, 79, 80, 81, 82, 83, 84, 85, 86, 87, 88, 89, 90, 97, 98, 99, 100, 101, 102, 103, 104, 105, 106, 107, 108, 109, 110, 111, 112, 113, 114, 115, 116, 117, 118, 119, 120, 121, 122, 48, 49, 50, 51, 52, 53, 54, 55, 56, 57, 45, 95]⟩ : ByteArray), .string a0] rfl (by ((try simp only [List.map_toArray, List.map_cons, List.map_nil]); (rfl))) ?_; (with_reducible refine (digest_values.calls k (⟨#[65, 66, 67, 68, 69, 70, 71, 72, 73, 74, 75, 76, 77, 78, 79, 80, 81, 82, 83, 84, 85, 86, 87, 88, 89, 90, 97, 98, 99, 100, 101, 102, 103, 104, 105, 106, 107, 108, 109, 110, 111, 112, 113, 114, 115, 116, 117, 118, 119, 120, 121, 122, 48, 49, 50, 51, 52, 53, 54, 55, 56, 57, 45, 95]⟩ : ByteArray) a0 t190 t191 t192 _ A2.out).mono ?_); rintro e w5 ⟨v193, rfl, ho0, hb⟩; refine ⟨_, rfl, ?_⟩; have HO194 := Aside0.mk (Kd.R_lower ho0 (below_size HB.out)); replace HB := Aside0.mk (below_step HB.out hb); clear hb ho0; obtain ⟨Ao6, co6, eo6⟩ := Kd.R_slice HO194.out; subst eo6))
     go_ret3
     exact ⟨_, rfl, by (exact Kd.R_nil _ _ _ _ _), by (with_reducible exact HB.out)⟩
   · rw [if_neg c4] at H
     have c4b0 : (((t190.length : Int) % 4) == 1) = false := beq_eq_false_iff_ne.mpr c4
     have c4b1 : (((t190.length : Int) % 4) != 1) = true := bne_iff_ne.mpr c4
     have H' := Aside0.mk H
     clear H
     go_enter Tryz.func99, Tryz.ntmps99
     go_wp2_with (first | ((with_reducible refine gate_callee (f := 133) rfl ?_); refine goesL_ (some 15) rfl rfl Tryz.func133 (by kernel_rfl) rfl #[.string (⟨#[65, 66, 67, 68, 69, 70, 71, 72, 73, 74, 75, 76, 77, 78, 79, 80, 81, 82, 83, 84, 85, 86, 87, 88, 89, 90, 97, 98, 99, 100, 101, 102, 103, 104, 105, 106, 107, 108, 109, 110, 111, 112, 113, 114, 115, 116, 117, 118, 119, 120, 121, 122, 48, 49, 50, 51, 52, 53, 54, 55, 56, 57, 45, 95]⟩ : ByteArray), .string a0] rfl (by ((try simp only [List.map_toArray, List.map_cons, List.map_nil]); (rfl))) ?_; (with_reducible refine (digest_values.calls k (⟨#[65, 66, 67, 68, 69, 70, 71, 72, 73, 74, 75, 76, 77, 78, 79, 80, 81, 82, 83, 84, 85, 86, 87, 88, 89, 90, 97, 98, 99, 100, 101, 102, 103, 104, 105, 106, 107, 108, 109, 110, 111, 112, 113, 114, 115, 116, 117, 118, 119, 120, 121, 122, 48, 49, 50, 51, 52, 53, 54, 55, 56, 57, 45, 95]⟩ : ByteArray) a0 t190 t191 t192 _ A2.out).mono ?_); rintro e w7 ⟨v193, rfl, ho0, hb⟩; refine ⟨_, rfl, ?_⟩; have HO194 := Aside0.mk (Kd.R_lower ho0 (below_size HB.out)); replace HB := Aside0.mk (below_step HB.out hb); clear hb ho0; obtain ⟨Ao8, co8, eo8⟩ := Kd.R_slice HO194.out; subst eo8))
     go_loopg [8, 9, 10, 31] k (fun kq v8 v9 v10 v31 w' => ∃ (x8_1 : List Int) (x9_1 : Int) (x10_1 : Int) (x31_1 : Int), v9 = .int .i64 x9_1 ∧ v10 = .int .i64 x10_1 ∧ v31 = .int .i64 x31_1 ∧ Aside0 (digest_FromBase64.l0 kq a0 x8_1 x9_1 x10_1 t190 (t190.length : Int) x31_1 = some (r1, r2, r3)) ∧ Aside0 (kq ≤ k) ∧ Aside0 (Kd.R (Kd.int .u8) 5 w' w.heap.size (fun _ => True) v8 x8_1) ∧ Aside0 (Kd.R (Kd.int .i64) 3 w' w.heap.size (fun _ => True) (.slice Ao8 t190.length co8) t190) ∧ Aside0 (Below w.heap.size w w'))
     case atStart => exact ⟨(([] : List Int)), (0), (0), (0), rfl, rfl, rfl, H', ⟨Nat.le_refl _⟩, ⟨by (exact Kd.R_nil _ _ _ _ _)⟩, ⟨HO194.out⟩, ⟨HB.out⟩⟩
     case round =>
      clear H' c3b0 c3b1 c4 c4b0 c4b1
      obtain ⟨x8_1, x9_1, x10_1, x31_1, rfl, rfl, rfl, HA, HK1, HO_8, HO_16, HB⟩ := hrel
      cases gk with
      | zero => exact absurd HA.out (by simp [digest_FromBase64.l0])
      | succ k1 =>
       have H := HA.out
       clear HA
       simp only [digest_FromBase64.l0] at H
       by_cases c9 : x31_1 < (t190.length : Int)
       · rw [if_pos c9] at H
         have c9b0 : decide (x31_1 < (t190.length : Int)) = true := decide_eq_true c9
         clear c9
         by_cases c10 : 0 ≤ x31_1
         · rw [if_pos c10] at H
           have c10b0 : decide (0 ≤ x31_1) = true := decide_eq_true c10
           clear c10
           by_cases c11 : x31_1 < (t190.length : Int)
           · rw [if_pos c11] at H
             have c11b0 : decide (x31_1 < (t190.length : Int)) = true := decide_eq_true c11
             clear c11
             by_cases c12 : (wrap64 (x10_1 + 6)) ≥ 8
             · rw [if_pos c12] at H
               have c12b0 : decide (8 ≤ (wrap64 (x10_1 + 6))) = true := decide_eq_true c12
               clear c12
               obtain ⟨ji13, hji13⟩ : ∃ j_ : Int, (wrap64 ((wrap64 (x10_1 + 6)) - 8)) = j_ := ⟨_, rfl⟩
               replace H : (if 0 ≤ (ji13) then (if x8_1.length < 140737488355328 then (digest_FromBase64.l0 k1 a0 (x8_1 ++ [(shr .i64 (Go.bits .or .i64 (wrap64 (x9_1 * 64)) (rd t190 x31_1)) (ji13)) % 256]) (Go.bits .and .i64 (Go.bits .or .i64 (wrap64 (x9_1 * 64)) (rd t190 x31_1)) (wrap64 ((shl .i64 1 (ji13)) - 1))) ji13 t190 (t190.length : Int) (wrap64 (x31_1 + 1))) else (none)) else (none)) = some (r1, r2, r3) := by (rw [hji13] at H; exact H)
               have hji13w : (IntKind.i64.wrap ((wrap64 (x10_1 + 6)) - 8)) = ji13 := (i64_w _).trans hji13
               by_cases c14 : 0 ≤ (ji13)
               · rw [if_pos c14] at H
                 have c14b0 := eq_true c14
                 have c14b1 : decide (0 ≤ (ji13)) = true := decide_eq_true c14
                 clear c14
                 obtain ⟨ji15, hji15⟩ : ∃ j_ : Int, (shr .i64 (Go.bits .or .i64 (wrap64 (x9_1 * 64)) (rd t190 x31_1)) (ji13)) = j_ := ⟨_, rfl⟩
                 replace H : (if x8_1.length < 140737488355328 then (digest_FromBase64.l0 k1 a0 (x8_1 ++ [(ji15) % 256]) (Go.bits .and .i64 (Go.bits .or .i64 (wrap64 (x9_1 * 64)) (rd t190 x31_1)) (wrap64 ((shl .i64 1 (ji13)) - 1))) ji13 t190 (t190.length : Int) (wrap64 (x31_1 + 1))) else (none)) = some (r1, r2, r3) := by (rw [hji15] at H; exact H)
                 have hji15_ : ((Go.bits .or .i64 (wrap64 (x9_1 * 64)) (rd t190 x31_1)) / 2 ^ min (ji13).toNat 64) = ji15 := hji15
                 have hji15z : (ji13) ≤ 64 → ((Go.bits .or .i64 (wrap64 (x9_1 * 64)) (rd t190 x31_1)) / 2 ^ (ji13).toNat) = ji15 := shr_small hji15
                 by_cases c16 : x8_1.length < 140737488355328
                 · rw [if_pos c16] at H
                   have LMc16 := Aside0.mk c16
                   clear c16
                   obtain ⟨y196, hy196⟩ : ∃ y_ : List Int, y_ = (x8_1 ++ [(ji15) % 256]) := ⟨_, rfl⟩
                   replace H : (digest_FromBase64.l0 k1 a0 y196 (Go.bits .and .i64 (Go.bits .or .i64 (wrap64 (x9_1 * 64)) (rd t190 x31_1)) (wrap64 ((shl .i64 1 (ji13)) - 1))) ji13 t190 (t190.length : Int) (wrap64 (x31_1 + 1))) = some (r1, r2, r3) := by (rw [hy196]; with_reducible exact H)
                   have Ny196 := Aside0.mk hy196
                   clear hy196
                   have c17b0 := eq_true (of_decide_eq_true (by assumption) : 0 ≤ (ji13))
                   obtain ⟨ji18, hji18⟩ : ∃ j_ : Int, (shl .i64 1 (ji13)) = j_ := ⟨_, rfl⟩
                   replace H : (digest_FromBase64.l0 k1 a0 y196 (Go.bits .and .i64 (Go.bits .or .i64 (wrap64 (x9_1 * 64)) (rd t190 x31_1)) (wrap64 ((ji18) - 1))) ji13 t190 (t190.length : Int) (wrap64 (x31_1 + 1))) = some (r1, r2, r3) := by (rw [hji18] at H; exact H)
                   have hji18_ : (IntKind.i64.wrap (1 * 2 ^ min (ji13).toNat 64)) = ji18 := hji18
                   have hji18z : (ji13) ≤ 64 → (IntKind.i64.wrap (1 * 2 ^ (ji13).toNat)) = ji18 := shl_small hji18
                   have hji18u : (IntKind.i64.wrap (2 ^ min (ji13).toNat 64)) = ji18 := by have h_ := hji18_; rw [Int.one_mul] at h_; exact h_
                   have hji18v : (ji13) ≤ 64 → (IntKind.i64.wrap (2 ^ (ji13).toNat)) = ji18 := fun hle_ => by have h_ := hji18z hle_; rw [Int.one_mul] at h_; exact h_
                   have hji18y : (wrap64 (1 * 2 ^ min (ji13).toNat 64)) = ji18 := (i64_w _).symm.trans hji18_
                   have hji18x : (ji13) ≤ 64 → (wrap64 (1 * 2 ^ (ji13).toNat)) = ji18 := fun h_ => (i64_w _).symm.trans (hji18z h_)
                   have H' := Aside0.mk H
                   clear H
                   have p195 : 0 ≤ (x31_1 : Int) := of_decide_eq_true (by assumption)
                   have q195 : x31_1 < (t190.length : Int) := of_decide_eq_true (by assumption)
                   obtain ⟨ad195, e195, hx195_0⟩ := Kd.at_int (Kd.R_reads' HO_16.out).2.2 x31_1 p195 q195
                   cases e195
                   replace p195 := eq_true p195
                   replace q195 := eq_true q195
                   go_wp2_with (first | ((with_reducible refine gate_builtin (b := .append) (xs := #[.tmp 45, .tmp 50]) rfl ?_); at_builtin; refine Kd.R_append (Kd.int .u8) (w0 := w) w.heap.size rfl (.tmp 45) (.tmp 50) 79 5 (.int .u8 0) 1 rfl Tryz.underlying79 info5 rfl (by decide) (by omega) u8 x8_1 ((ji15) % 256) [.int .u8 ((ji15) % 256)] (fun _ => True) (fun _ => False) rfl rfl ?aP (fun _ hk => hk.elim) ?aF ?aO ?aB ?aS ?aL ?_; (case aP => exact rfl); (case aB => exact HB.out); (case aF => exact (fun _ _ => trivial)); (case aO => exact HO_8.out); (case aS => exact (below_size HB.out)); (case aL => have := LMc16.out; omega); intro v197 w19 ho hb hg hat; rw [← Ny196.out] at ho; have n0_ := Aside0.mk (Kd.R_over' HO_16.out (Kd.R_typed HO_8.out) (by decide) hg); have n1_ := Aside0.mk hb; have n2_ := Aside0.mk ho; clear HO_16 HB HO_8; have HO_16 := n0_; have HB := n1_; have HO198 := n2_; clear n0_ n1_ n2_; clear ho hb hg hat))
                   go_roundg k1
                   case measure => have := HK1.out; omega
                   case rel => exact ⟨(y196), (Go.bits .and .i64 (Go.bits .or .i64 (wrap64 (x9_1 * 64)) (rd t190 x31_1)) (wrap64 ((ji18) - 1))), (ji13), (wrap64 (x31_1 + 1)), rfl, rfl, rfl, H', ⟨by have := HK1.out; omega⟩, ⟨HO198.out⟩, ⟨HO_16.out⟩, ⟨HB.out⟩⟩
                 · rw [if_neg c16] at H
                   exact absurd H (by simp)
               · rw [if_neg c14] at H
                 exact absurd H (by simp)
             · rw [if_neg c12] at H
               have c12b0 : decide (8 ≤ (wrap64 (x10_1 + 6))) = false := decide_eq_false c12
               clear c12
               have H' := Aside0.mk H
               clear H
               have p195 : 0 ≤ (x31_1 : Int) := of_decide_eq_true (by assumption)
               have q195 : x31_1 < (t190.length : Int) := of_decide_eq_true (by assumption)
               obtain ⟨ad195, e195, hx195_0⟩ := Kd.at_int (Kd.R_reads' HO_16.out).2.2 x31_1 p195 q195
               cases e195
               replace p195 := eq_true p195
               replace q195 := eq_true q195
               go_wp2
               go_roundg k1
               case measure => have := HK1.out; omega
               case rel => exact ⟨(x8_1), (Go.bits .or .i64 (wrap64 (x9_1 * 64)) (rd t190 x31_1)), (wrap64 (x10_1 + 6)), (wrap64 (x31_1 + 1)), rfl, rfl, rfl, H', ⟨by have := HK1.out; omega⟩, ⟨HO_8.out⟩, ⟨HO_16.out⟩, ⟨HB.out⟩⟩
           · rw [if_neg c11] at H
             exact absurd H (by simp)
         · rw [if_neg c10] at H
           exact absurd H (by simp)
       · rw [if_neg c9] at H
         have c9b0 : decide (x31_1 < (t190.length : Int)) = false := decide_eq_false c9
         clear c9
         by_cases c20 : x9_1 = 0
         · rw [if_pos c20] at H
           have c20b0 : (x9_1 == 0) = true := beq_iff_eq.mpr c20
           have c20b1 : (x9_1 != 0) = false := bne_eq_false_iff_eq.mpr c20
           clear c20
           simp only [Option.some.injEq, Prod.mk.injEq] at H
           obtain ⟨rfl, rfl, rfl⟩ := H
           go_wp2
           go_ret3
           exact ⟨_, rfl, by ((with_reducible repeat (first | apply Kd.R_alloc  | apply Kd.R_drewN  | apply Kd.R_drew)); exact HO_8.out), by (with_reducible exact HB.out)⟩
         · rw [if_neg c20] at H
           have c20b0 : (x9_1 == 0) = false := beq_eq_false_iff_ne.mpr c20
           have c20b1 : (x9_1 != 0) = true := bne_iff_ne.mpr c20
           simp only [Option.some.injEq, Prod.mk.injEq] at H
           obtain ⟨rfl, rfl, rfl⟩ := H
           go_wp2
           go_ret3
           exact ⟨_, rfl, by (exact Kd.R_nil _ _ _ _ _), by (with_reducible exact HB.out)⟩
 · rw [if_neg c3] at H
   have c3b0 : (t191 == 0) = false := beq_eq_false_iff_ne.mpr c3
   have c3b1 : (t191 != 0) = true := bne_iff_ne.mpr c3
   simp only [Option.some.injEq, Prod.mk.injEq] at H
   obtain ⟨rfl, rfl, rfl⟩ := H
   go_enter Tryz.func99, Tryz.ntmps99
   go_wp2_with (first | ((with_reducible refine gate_callee (f := 133) rfl ?_); refine goesL_ (some 15) rfl rfl Tryz.func133 (by kernel_rfl) rfl #[.string (⟨#[65, 66, 67, 68, 69, 70, 71, 72, 73, 74, 75, 76, 77, 78, 79, 80, 81, 82, 83, 84, 85, 86, 87, 88, 89, 90, 97, 98, 99, 100, 101, 102, 103, 104, 105, 106, 107, 108, 109, 110, 111, 112, 113, 114, 115, 116, 117, 118, 119, 120, 121, 122, 48, 49, 50, 51, 52, 53, 54, 55, 56, 57, 45, 95]⟩ : ByteArray), .string a0] rfl (by ((try simp only [List.map_toArray, List.map_cons, List.map_nil]); (rfl))) ?_; (with_reducible refine (digest_values.calls k (⟨#[65, 66, 67, 68, 69, 70, 71, 72, 73, 74, 75, 76, 77, 78, 79, 80, 81, 82, 83, 84, 85, 86, 87, 88, 89, 90, 97, 98, 99, 100, 101, 102, 103, 104, 105, 106, 107, 108, 109, 110, 111, 112, 113, 114, 115, 116, 117, 118, 119, 120, 121, 122, 48, 49, 50, 51, 52, 53, 54, 55, 56, 57, 45, 95]⟩ : ByteArray) a0 t190 t191 t192 _ A2.out).mono ?_); rintro e w21 ⟨v193, rfl, ho0, hb⟩; refine ⟨_, rfl, ?_⟩; have HO194 := Aside0.mk (Kd.R_lower ho0 (below_size HB.out)); replace HB := Aside0.mk (below_step HB.out hb); clear hb ho0))
   go_ret3
   exact ⟨_, rfl, by (exact Kd.R_nil _ _ _ _ _), by (with_reducible exact HB.out)⟩
end Go.Proofs.YtmimipgmhgalaaaGreatDoor.PAll
end
section
namespace Go.Proofs.YtmimipgmhgalaaaGreatDoor.Sha
open Go.RowKit Go.Proofs.YtmimipgmhgalaaaGreatDoorW.PrintWords Go.Proofs.YtmimipgmhgalaaaGreatDoor.Plain Go.Proofs.YtmimipgmhgalaaaGreatDoor.PAll
set_option linter.unusedSimpArgs false
set_option linter.unusedVariables false
def first : List Nat := [0x6a09e667, 0xbb67ae85, 0x3c6ef372, 0xa54ff53a, 0x510e527f, 0x9b05688c, 0x1f83d9ab, 0x5be0cd19]
def toI (p : List Nat) : List Int := p.map (fun x : Nat => (Int.ofNat x : Int))
theorem toI_len (p : List Nat) : (toI p).length = p.length := List.length_map _
theorem toI_getD (p : List Nat) (j : Nat) : (toI p).getD j 0 = ((p.getD j 0 : Nat) : Int) := by
  unfold toI
  rw [List.getD_eq_getElem?_getD, List.getElem?_map, List.getD_eq_getElem?_getD]
  cases p[j]? <;> rfl
theorem bitOr (a i b : Nat) (hb : b < 2 ^ i) : a * 2 ^ i ||| b = a * 2 ^ i + b := by
  rw [Nat.mul_comm, ← Nat.two_pow_add_eq_or_of_lt hb]
def six : List Nat → List Nat
  | [] => []
  | [a] => [a / 4, a % 4 * 16]
  | [a, b] => [a / 4, a % 4 * 16 + b / 16, b % 16 * 4]
  | a :: b :: c :: r => a / 4 :: (a % 4 * 16 + b / 16) :: (b % 16 * 4 + c / 64) :: c % 64 :: six r
def une : List Nat → List Nat × Nat
  | [] => ([], 0)
  | [x] => ([], x)
  | [x, y] => ([x * 4 + y / 16], y % 16)
  | [x, y, z] => ([x * 4 + y / 16, y % 16 * 16 + z / 4], z % 4)
  | x :: y :: z :: t :: r => ((x * 4 + y / 16) :: (y % 16 * 16 + z / 4) :: (z % 4 * 64 + t) :: (une r).1, (une r).2)
def Lt (b : Nat) (l : List Nat) : Prop := ∀ x ∈ l, x < b
theorem Lt.cons {b x : Nat} {l : List Nat} (h : Lt b (x :: l)) : x < b ∧ Lt b l := ⟨h x (by simp), fun y hy => h y (by simp [hy])⟩
theorem Lt.mk {b x : Nat} {l : List Nat} (h : x < b) (t : Lt b l) : Lt b (x :: l) := fun y hy => by
  rcases List.mem_cons.1 hy with rfl | hy
  · exact h
  · exact t y hy
theorem Lt.nil (b : Nat) : Lt b [] := fun x hx => by simp at hx
theorem six_lt : ∀ (p : List Nat), Lt 256 p → Lt 64 (six p)
  | [], _ => Lt.nil _
  | [a], h => by
    have h1 := h.cons.1
    exact Lt.mk (by omega) (Lt.mk (by omega) (Lt.nil _))
  | [a, b], h => by
    have h1 := h.cons.1
    have h2 := h.cons.2.cons.1
    exact Lt.mk (by omega) (Lt.mk (by omega) (Lt.mk (by omega) (Lt.nil _)))
  | a :: b :: c :: r, h => by
    have h1 := h.cons.1
    have h2 := h.cons.2.cons.1
    have h3 := h.cons.2.cons.2.cons.1
    exact Lt.mk (by omega) (Lt.mk (by omega) (Lt.mk (by omega) (Lt.mk (by omega) (six_lt r h.cons.2.cons.2.cons.2))))
theorem une_six : ∀ (p : List Nat), Lt 256 p → une (six p) = (p, 0)
  | [], _ => rfl
  | [a], h => by
    have h1 := h.cons.1
    simp only [six, une, Prod.mk.injEq, List.cons.injEq, and_true]
    omega
  | [a, b], h => by
    have h1 := h.cons.1
    have h2 := h.cons.2.cons.1
    simp only [six, une, Prod.mk.injEq, List.cons.injEq, and_true]
    omega
  | a :: b :: c :: r, h => by
    have h1 := h.cons.1
    have h2 := h.cons.2.cons.1
    have h3 := h.cons.2.cons.2.cons.1
    have ih := une_six r h.cons.2.cons.2.cons.2
    simp only [six, une, ih, Prod.mk.injEq, List.cons.injEq, and_true]
    omega
theorem six_len : ∀ (p : List Nat), (six p).length % 4 ≠ 1
  | [] => by simp [six]
  | [a] => by simp [six]
  | [a, b] => by simp [six]
  | a :: b :: c :: r => by
    have := six_len r
    simp only [six, List.length_cons]
    omega
theorem une_len : ∀ (v : List Nat), (une v).1.length ≤ v.length
  | [] => by simp [une]
  | [x] => by simp [une]
  | [x, y] => by simp [une]
  | [x, y, z] => by simp [une]
  | x :: y :: z :: t :: r => by
    have := une_len r
    simp only [une, List.length_cons]
    omega
def al64 : List Nat := [65, 66, 67, 68, 69, 70, 71, 72, 73, 74, 75, 76, 77, 78, 79, 80, 81, 82, 83, 84, 85, 86, 87, 88, 89, 90, 97, 98, 99, 100, 101, 102, 103, 104, 105, 106, 107, 108, 109, 110, 111, 112, 113, 114, 115, 116, 117, 118, 119, 120, 121, 122, 48, 49, 50, 51, 52, 53, 54, 55, 56, 57, 45, 95]
def value (al : List Nat) (c : Nat) : Nat := al.idxOf c
def bad (al : List Nat) : List Nat → Nat → Option Nat
  | [], _ => none
  | c :: r, i => if c ∈ al then bad al r (i + 1) else some i
theorem good {al : List Nat} : ∀ (s : List Nat) (i : Nat), bad al s i = none → ∀ c ∈ s, c ∈ al
  | [], _, _ => fun c hc => by simp at hc
  | x :: s, i, h => fun c hc => by
    by_cases hx : x ∈ al
    · rw [bad, if_pos hx] at h
      rcases List.mem_cons.1 hc with rfl | hc
      · exact hx
      · exact good s (i + 1) h c hc
    · rw [bad, if_neg hx] at h
      cases h
theorem value_lt {al : List Nat} (s : List Nat) (h : ∀ c ∈ s, c ∈ al) : Lt al.length (s.map (value al)) := by
  intro x hx
  obtain ⟨c, hc, rfl⟩ := List.mem_map.1 hx
  exact List.idxOf_lt_length_iff.2 (h c hc)
def from64 (s : List Nat) : List Nat × Nat × Nat :=
  if s.length > 65536 then ([], 1, 0) else
  match bad al64 s 0 with
  | some i => ([], 20, i)
  | none => if s.length % 4 = 1 then ([], 3, s.length) else if (une (s.map (value al64))).2 = 0 then ((une (s.map (value al64))).1, 0, 0) else ([], 21, s.length - 1)
theorem from64_len (s : List Nat) : (from64 s).1.length ≤ 65536 := by
  unfold from64
  by_cases h1 : s.length > 65536
  · rw [if_pos h1]; simp
  rw [if_neg h1]
  cases hb : bad al64 s 0 with
  | some i => simp
  | none =>
    simp only []
    by_cases h2 : s.length % 4 = 1
    · rw [if_pos h2]; simp
    rw [if_neg h2]
    by_cases h3 : (une (s.map (value al64))).2 = 0
    · rw [if_pos h3]
      have := une_len (s.map (value al64))
      rw [List.length_map] at this
      show (une (s.map (value al64))).1.length ≤ 65536
      omega
    · rw [if_neg h3]; simp
theorem i64_small (x : Nat) (h : x < 4611686018427387904) : IntKind.i64.wrap (x : Int) = (x : Int) := IntWalk.i64_in _ (by omega)
theorem ofInt_64 (x : Nat) (h : x < 4611686018427387904) : (BitVec.ofInt 64 (x : Int)).toNat = x := by simp; omega
theorem or_i64 (a i b : Nat) (hb : b < 2 ^ i) (hs : a * 2 ^ i + b < 4611686018427387904) : bits .or .i64 ((a * 2 ^ i : Nat) : Int) (b : Int) = ((a * 2 ^ i + b : Nat) : Int) := by
  show IntKind.i64.wrap ((BitVec.ofInt 64 ((a * 2 ^ i : Nat) : Int) ||| BitVec.ofInt 64 (b : Int)).toNat : Int) = _
  rw [BitVec.toNat_or, ofInt_64 _ (by omega), ofInt_64 _ (by omega), bitOr a i b hb, i64_small _ hs]
theorem and_i64 (m j : Nat) (hm : m < 4611686018427387904) (hj : 2 ^ j - 1 < 4611686018427387904) : bits .and .i64 (m : Int) ((2 ^ j - 1 : Nat) : Int) = ((m % 2 ^ j : Nat) : Int) := by
  show IntKind.i64.wrap ((BitVec.ofInt 64 (m : Int) &&& BitVec.ofInt 64 ((2 ^ j - 1 : Nat) : Int)).toNat : Int) = _
  rw [BitVec.toNat_and, ofInt_64 _ hm, ofInt_64 _ hj, Nat.and_two_pow_sub_one_eq_mod, i64_small _ (Nat.lt_of_le_of_lt (Nat.mod_le _ _) hm)]
def sN (s : ByteArray) : List Nat := s.data.toList.map UInt8.toNat
theorem sN_len (s : ByteArray) : (sN s).length = s.size := by simp [sN]
theorem sN_all (s : ByteArray) : Lt 256 (sN s) := fun x hx => by
  obtain ⟨c, _, rfl⟩ := List.mem_map.1 hx
  exact c.toNat_lt
theorem bt_sN (s : ByteArray) (i : Nat) (h : i < s.size) : bt s (i : Int) = (((sN s).getD i 0 : Nat) : Int) := by
  have h' : i < (sN s).length := by rw [sN_len]; exact h
  rw [List.getD_eq_getElem?_getD, List.getElem?_eq_getElem h']
  unfold bt
  rw [dif_pos (by simpa using h)]
  simp [sN]
  rfl
theorem rd_toI (p : List Nat) (i : Nat) : rd (toI p) (i : Int) = ((p.getD i 0 : Nat) : Int) := by unfold rd; rw [Int.toNat_natCast, toI_getD]
theorem drop_at {d : List Nat} {p : List Nat} {i x : Nat} (h : p.drop i = x :: d) : i < p.length ∧ p.getD i 0 = x ∧ p.drop (i + 1) = d := by
  have hl : i < p.length := by
    rcases Nat.lt_or_ge i p.length with h1 | h1
    · exact h1
    · rw [List.drop_eq_nil_of_le h1] at h; cases h
  rw [List.drop_eq_getElem_cons hl] at h
  injection h with h1 h2
  exact ⟨hl, by rw [List.getD_eq_getElem?_getD, List.getElem?_eq_getElem hl]; exact h1, h2⟩
theorem drop_none {p : List Nat} {i : Nat} (h : p.drop i = []) : p.length ≤ i := by
  rcases Nat.lt_or_ge i p.length with h1 | h1
  · rw [List.drop_eq_getElem_cons h1] at h; cases h
  · exact h1
def vat (al : List Nat) (c i : Nat) : Int := if c ∈ al then ((i + value al c : Nat) : Int) else -1
theorem vat_cons (al : List Nat) (x c i : Nat) : vat (x :: al) c i = if x = c then (i : Int) else vat al c (i + 1) := by
  unfold vat value
  by_cases h : x = c
  · subst h
    simp
  · have h' : ¬ (c = x) := fun e => h e.symm
    rw [if_neg h]
    simp only [List.mem_cons, h', false_or]
    by_cases hm : c ∈ al
    · rw [if_pos hm, if_pos hm, List.idxOf_cons]
      have : (x == c) = false := by simpa using h
      rw [this]
      simp
      omega
    · rw [if_neg hm, if_neg hm]
theorem place_ev (A : ByteArray) (c : Nat) (hs : A.size ≤ 1000) : ∀ (d : List Nat) (i : Nat), (sN A).drop i = d → Ev (fun k => digest_place.l0 k A (c : Int) (A.size : Int) (i : Int)) (vat d c i)
  | [], i, hd => by
    have h := drop_none hd
    rw [sN_len] at h
    refine Ev.step (f := fun _ => some (-1)) (fun k => ?_) (Ev.eq (Ev.now _) (by simp [vat]))
    simp only [digest_place.l0]
    rw [if_neg (by omega)]
  | x :: d, i, hd => by
    obtain ⟨h1, h2, h3⟩ := drop_at hd
    rw [sN_len] at h1
    have hx := bt_sN A i h1
    rw [h2] at hx
    rw [vat_cons]
    by_cases hc : x = c
    · refine Ev.step (f := fun _ => some (i : Int)) (fun k => ?_) (Ev.eq (Ev.now _) (by rw [if_pos hc]))
      simp only [digest_place.l0]
      rw [if_pos (by omega), if_pos (by omega), if_pos (by omega), if_pos (by rw [hx, hc])]
    · refine Ev.eq (Ev.step (fun k => ?_) (place_ev A c hs d (i + 1) h3)) (by rw [if_neg hc])
      simp only [digest_place.l0]
      rw [if_pos (by omega), if_pos (by omega), if_pos (by omega), if_neg (by rw [hx]; omega), w64 (by omega) (by omega)]
      rfl
theorem values_ev (A s : ByteArray) (hA : A.size ≤ 1000) (hs : s.size ≤ 65536) : ∀ (d : List Nat) (i : Nat) (out : List Nat), (sN s).drop i = d → out.length ≤ i →
    Ev (fun k => digest_values.l0 k A s (toI out) (s.size : Int) (i : Int)) (match bad (sN A) d i with | some j => (([] : List Int), 20, (j : Int)) | none => (toI (out ++ d.map (value (sN A))), 0, 0))
  | [], i, out, hd, ho => by
    have h := drop_none hd
    rw [sN_len] at h
    refine Ev.step (f := fun _ => some (toI out, 0, 0)) (fun k => ?_) (Ev.eq (Ev.now _) (by simp [bad]))
    simp only [digest_values.l0]
    rw [if_neg (by omega)]
  | x :: d, i, out, hd, ho => by
    obtain ⟨h1, h2, h3⟩ := drop_at hd
    rw [sN_len] at h1
    have hx := bt_sN s i h1
    rw [h2] at hx
    have hp := place_ev A x hA (sN A) 0 (by simp)
    by_cases hc : x ∈ sN A
    · have hv : vat (sN A) x 0 = ((value (sN A) x : Nat) : Int) := by unfold vat; rw [if_pos hc, Nat.zero_add]
      rw [hv] at hp
      rw [bad, if_pos hc]
      refine Ev.step (f := fun k => (digest_place.f k A (bt s (i : Int))).bind fun t110 => (if t110 < 0 then (some (([] : List Int), 20, (i : Int))) else (if (toI out).length < 17592186044416 then (digest_values.l0 k A s (toI out ++ [t110]) (s.size : Int) (wrap64 ((i : Int) + 1))) else (none)))) (fun k => ?_) (Ev.bind (a := ((value (sN A) x : Nat) : Int)) (by rw [hx]; exact hp) (Ev.neg (by omega) (Ev.pos (by rw [toI_len]; omega) ?_)))
      · simp only [digest_values.l0]
        rw [if_pos (by omega), if_pos (by omega), if_pos (by omega)]
      · have ih := values_ev A s hA hs d (i + 1) (out ++ [value (sN A) x]) h3 (by simp; omega)
        rw [w64 (by omega) (by omega)]
        have e : toI (out ++ [value (sN A) x]) = toI out ++ [((value (sN A) x : Nat) : Int)] := by simp [toI]
        rw [e] at ih
        refine Ev.eq ih ?_
        rw [List.append_assoc]
        rfl
    · have hv : vat (sN A) x 0 = -1 := by unfold vat; rw [if_neg hc]
      rw [hv] at hp
      rw [bad, if_neg hc]
      refine Ev.step (f := fun k => (digest_place.f k A (bt s (i : Int))).bind fun t110 => (if t110 < 0 then (some (([] : List Int), 20, (i : Int))) else (if (toI out).length < 17592186044416 then (digest_values.l0 k A s (toI out ++ [t110]) (s.size : Int) (wrap64 ((i : Int) + 1))) else (none)))) (fun k => ?_) (Ev.bind (a := (-1 : Int)) (by rw [hx]; exact hp) (Ev.pos (by omega) (Ev.now _)))
      simp only [digest_values.l0]
      rw [if_pos (by omega), if_pos (by omega), if_pos (by omega)]
abbrev A64 : ByteArray := ⟨#[65, 66, 67, 68, 69, 70, 71, 72, 73, 74, 75, 76, 77, 78, 79, 80, 81, 82, 83, 84, 85, 86, 87, 88, 89, 90, 97, 98, 99, 100, 101, 102, 103, 104, 105, 106, 107, 108, 109, 110, 111, 112, 113, 114, 115, 116, 117, 118, 119, 120, 121, 122, 48, 49, 50, 51, 52, 53, 54, 55, 56, 57, 45, 95]⟩
theorem sN64 : sN A64 = al64 := by kernel_rfl
theorem vals_ev (A s : ByteArray) (hA : A.size ≤ 1000) : Ev (fun k => digest_values.f k A s) (if s.size > 65536 then (([] : List Int), 1, 0) else match bad (sN A) (sN s) 0 with | some j => (([] : List Int), 20, (j : Int)) | none => (toI ((sN s).map (value (sN A))), 0, 0)) := by
  unfold digest_values.f
  by_cases h : s.size > 65536
  · exact Ev.pos (by omega) (Ev.eq (Ev.now _) (by rw [if_pos h]))
  · refine Ev.neg (by omega) (Ev.eq (values_ev A s hA (by omega) (sN s) 0 [] (by simp) (by simp)) ?_)
    rw [if_neg h, List.nil_append]
theorem toI_push (out : List Nat) (x : Nat) : toI out ++ [(x : Int)] = toI (out ++ [x]) := by simp [toI]
def fin64 (n : Nat) (out : List Nat) (u : List Nat × Nat) : List Int × Int × Int := if u.2 = 0 then (toI (out ++ u.1), 0, 0) else (([] : List Int), 21, (n : Int) - 1)
theorem step_in (V : List Nat) (i : Nat) (h : i < V.length) (hl : V.length ≤ 65536) : (i : Int) < (V.length : Int) ∧ (0 : Int) ≤ (i : Int) ∧ (i : Int) < ((toI V).length : Int) ∧ wrap64 ((i : Int) + 1) = ((i + 1 : Nat) : Int) := by
  rw [toI_len]
  exact ⟨by omega, by omega, by omega, by rw [w64 (by omega) (by omega)]; rfl⟩
theorem put6 (n x : Nat) (hn : n < 1000) (hx : x < 64) : bits .or .i64 (wrap64 ((n : Int) * 64)) (x : Int) = ((n * 64 + x : Nat) : Int) := by
  rw [w64 (by omega) (by omega)]
  exact or_i64 n 6 x hx (by omega)
theorem q6 : wrap64 (0 + 6) = 6 := (w64 (by decide) (by decide)).trans rfl
theorem q12 : wrap64 (6 + 6) = 12 := (w64 (by decide) (by decide)).trans rfl
theorem q4 : wrap64 (12 - 8) = 4 := (w64 (by decide) (by decide)).trans rfl
theorem q10 : wrap64 (4 + 6) = 10 := (w64 (by decide) (by decide)).trans rfl
theorem q2 : wrap64 (10 - 8) = 2 := (w64 (by decide) (by decide)).trans rfl
theorem q8 : wrap64 (2 + 6) = 8 := (w64 (by decide) (by decide)).trans rfl
theorem q0 : wrap64 (8 - 8) = 0 := (w64 (by decide) (by decide)).trans rfl
theorem m4 : wrap64 (shl .i64 1 4 - 1) = 15 := by kernel_rfl
theorem m2 : wrap64 (shl .i64 1 2 - 1) = 3 := by kernel_rfl
theorem m0 : wrap64 (shl .i64 1 0 - 1) = 0 := by kernel_rfl
theorem shr_nat (X : Int) (j : Nat) (h : j ≤ 64) : shr .i64 X (j : Int) = X / 2 ^ j := by
  unfold shr
  rw [Int.toNat_natCast, Nat.min_eq_left (show j ≤ IntKind.i64.bits from h)]
theorem s0 (s : ByteArray) (out V : List Nat) (i x : Nat) (hi : i < V.length) (hx : V.getD i 0 = x) (hxl : x < 64) (hl : V.length ≤ 65536) (k : Nat) :
    digest_FromBase64.l0 (k + 1) s (toI out) 0 0 (toI V) (V.length : Int) (i : Int) = digest_FromBase64.l0 k s (toI out) (x : Int) 6 (toI V) (V.length : Int) ((i + 1 : Nat) : Int) := by
  obtain ⟨h1, h2, h3, h4⟩ := step_in V i hi hl
  have hp := put6 0 x (by omega) hxl
  rw [Nat.zero_mul, Nat.zero_add] at hp
  simp only [digest_FromBase64.l0, q6]
  rw [if_pos h1, if_pos h2, if_pos h3, if_neg (by decide), rd_toI, hx, h4]
  exact congrArg (fun z => digest_FromBase64.l0 k s (toI out) z 6 (toI V) (V.length : Int) ((i + 1 : Nat) : Int)) hp
theorem s6 (s : ByteArray) (out V : List Nat) (i n x : Nat) (hi : i < V.length) (hx : V.getD i 0 = x) (hn : n < 64) (hxl : x < 64) (hl : V.length ≤ 65536) (ho : out.length < 140737488355328) (k : Nat) :
    digest_FromBase64.l0 (k + 1) s (toI out) (n : Int) 6 (toI V) (V.length : Int) (i : Int) = digest_FromBase64.l0 k s (toI (out ++ [n * 4 + x / 16])) ((x % 16 : Nat) : Int) 4 (toI V) (V.length : Int) ((i + 1 : Nat) : Int) := by
  obtain ⟨h1, h2, h3, h4⟩ := step_in V i hi hl
  have hp := put6 n x (by omega) hxl
  have hs : shr .i64 ((n * 64 + x : Nat) : Int) 4 % 256 = ((n * 4 + x / 16 : Nat) : Int) := by
    have := shr_nat ((n * 64 + x : Nat) : Int) 4 (by decide)
    rw [show ((4 : Nat) : Int) = 4 from rfl] at this
    rw [this]
    omega
  have ha : bits .and .i64 ((n * 64 + x : Nat) : Int) 15 = ((x % 16 : Nat) : Int) := by
    have := and_i64 (n * 64 + x) 4 (by omega) (by decide)
    rw [show (n * 64 + x) % 2 ^ 4 = x % 16 by omega] at this
    exact this
  simp only [digest_FromBase64.l0, q12, q4, m4]
  rw [if_pos h1, if_pos h2, if_pos h3, if_pos (by decide), if_pos (by decide), if_pos (by rw [toI_len]; omega), rd_toI, hx, h4, hp, hs, ha, toI_push]
theorem s4 (s : ByteArray) (out V : List Nat) (i n x : Nat) (hi : i < V.length) (hx : V.getD i 0 = x) (hn : n < 16) (hxl : x < 64) (hl : V.length ≤ 65536) (ho : out.length < 140737488355328) (k : Nat) :
    digest_FromBase64.l0 (k + 1) s (toI out) (n : Int) 4 (toI V) (V.length : Int) (i : Int) = digest_FromBase64.l0 k s (toI (out ++ [n * 16 + x / 4])) ((x % 4 : Nat) : Int) 2 (toI V) (V.length : Int) ((i + 1 : Nat) : Int) := by
  obtain ⟨h1, h2, h3, h4⟩ := step_in V i hi hl
  have hp := put6 n x (by omega) hxl
  have hs : shr .i64 ((n * 64 + x : Nat) : Int) 2 % 256 = ((n * 16 + x / 4 : Nat) : Int) := by
    have := shr_nat ((n * 64 + x : Nat) : Int) 2 (by decide)
    rw [show ((2 : Nat) : Int) = 2 from rfl] at this
    rw [this]
    omega
  have ha : bits .and .i64 ((n * 64 + x : Nat) : Int) 3 = ((x % 4 : Nat) : Int) := by
    have := and_i64 (n * 64 + x) 2 (by omega) (by decide)
    rw [show (n * 64 + x) % 2 ^ 2 = x % 4 by omega] at this
    exact this
  simp only [digest_FromBase64.l0, q10, q2, m2]
  rw [if_pos h1, if_pos h2, if_pos h3, if_pos (by decide), if_pos (by decide), if_pos (by rw [toI_len]; omega), rd_toI, hx, h4, hp, hs, ha, toI_push]
theorem s2 (s : ByteArray) (out V : List Nat) (i n x : Nat) (hi : i < V.length) (hx : V.getD i 0 = x) (hn : n < 4) (hxl : x < 64) (hl : V.length ≤ 65536) (ho : out.length < 140737488355328) (k : Nat) :
    digest_FromBase64.l0 (k + 1) s (toI out) (n : Int) 2 (toI V) (V.length : Int) (i : Int) = digest_FromBase64.l0 k s (toI (out ++ [n * 64 + x])) 0 0 (toI V) (V.length : Int) ((i + 1 : Nat) : Int) := by
  obtain ⟨h1, h2, h3, h4⟩ := step_in V i hi hl
  have hp := put6 n x (by omega) hxl
  have hs : shr .i64 ((n * 64 + x : Nat) : Int) 0 % 256 = ((n * 64 + x : Nat) : Int) := by
    have := shr_nat ((n * 64 + x : Nat) : Int) 0 (by decide)
    rw [show ((0 : Nat) : Int) = 0 from rfl] at this
    rw [this]
    omega
  have ha : bits .and .i64 ((n * 64 + x : Nat) : Int) 0 = (0 : Int) := by
    have := and_i64 (n * 64 + x) 0 (by omega) (by decide)
    rw [show (n * 64 + x) % 2 ^ 0 = 0 by omega] at this
    exact this
  simp only [digest_FromBase64.l0, q8, q0, m0]
  rw [if_pos h1, if_pos h2, if_pos h3, if_pos (by decide), if_pos (by decide), if_pos (by rw [toI_len]; omega), rd_toI, hx, h4, hp, hs, ha, toI_push]
theorem sEnd (s : ByteArray) (out V : List Nat) (i n : Nat) (h : Int) (hi : V.length ≤ i) (hs : s.size ≤ 65536) (k : Nat) :
    digest_FromBase64.l0 (k + 1) s (toI out) (n : Int) h (toI V) (V.length : Int) (i : Int) = some (fin64 s.size out ([], n)) := by
  simp only [digest_FromBase64.l0]
  rw [if_neg (by omega)]
  unfold fin64
  by_cases hn : n = 0
  · rw [if_pos (by omega), if_pos hn, List.append_nil]
  · rw [if_neg (by omega), if_neg hn, w64 (by omega) (by omega)]
theorem un64_ev (s : ByteArray) (V : List Nat) (hs : s.size ≤ 65536) (hl : V.length ≤ 65536) (hV : Lt 64 V) : ∀ (d : List Nat) (i : Nat) (out : List Nat), V.drop i = d → out.length ≤ i →
    Ev (fun k => digest_FromBase64.l0 k s (toI out) 0 0 (toI V) (V.length : Int) (i : Int)) (fin64 s.size out (une d))
  | [], i, out, hd, ho => Ev.step (f := fun _ => some (fin64 s.size out ([], 0))) (fun k => sEnd s out V i 0 0 (drop_none hd) hs k) (Ev.now _)
  | [x], i, out, hd, ho => by
    obtain ⟨a1, a2, a3⟩ := drop_at hd
    have ax : x < 64 := a2 ▸ hV _ (by rw [List.getD_eq_getElem?_getD, List.getElem?_eq_getElem a1]; exact List.getElem_mem a1)
    exact Ev.step (fun k => s0 s out V i x a1 a2 ax hl k) (Ev.step (f := fun _ => some (fin64 s.size out ([], x))) (fun k => sEnd s out V (i + 1) x 6 (drop_none a3) hs k) (Ev.now _))
  | [x, y], i, out, hd, ho => by
    obtain ⟨a1, a2, a3⟩ := drop_at hd
    obtain ⟨b1, b2, b3⟩ := drop_at a3
    have ax : x < 64 := a2 ▸ hV _ (by rw [List.getD_eq_getElem?_getD, List.getElem?_eq_getElem a1]; exact List.getElem_mem a1)
    have bx : y < 64 := b2 ▸ hV _ (by rw [List.getD_eq_getElem?_getD, List.getElem?_eq_getElem b1]; exact List.getElem_mem b1)
    refine Ev.eq (Ev.step (fun k => s0 s out V i x a1 a2 ax hl k) (Ev.step (fun k => s6 s out V (i + 1) x y b1 b2 ax bx hl (by omega) k) (Ev.step (f := fun _ => some (fin64 s.size (out ++ [x * 4 + y / 16]) ([], y % 16))) (fun k => sEnd s _ V (i + 1 + 1) (y % 16) 4 (drop_none b3) hs k) (Ev.now _)))) ?_
    simp only [fin64, une, List.append_assoc, List.cons_append, List.nil_append, List.append_nil]
    rfl
  | [x, y, z], i, out, hd, ho => by
    obtain ⟨a1, a2, a3⟩ := drop_at hd
    obtain ⟨b1, b2, b3⟩ := drop_at a3
    obtain ⟨c1, c2, c3⟩ := drop_at b3
    have ax : x < 64 := a2 ▸ hV _ (by rw [List.getD_eq_getElem?_getD, List.getElem?_eq_getElem a1]; exact List.getElem_mem a1)
    have bx : y < 64 := b2 ▸ hV _ (by rw [List.getD_eq_getElem?_getD, List.getElem?_eq_getElem b1]; exact List.getElem_mem b1)
    have cx : z < 64 := c2 ▸ hV _ (by rw [List.getD_eq_getElem?_getD, List.getElem?_eq_getElem c1]; exact List.getElem_mem c1)
    refine Ev.eq (Ev.step (fun k => s0 s out V i x a1 a2 ax hl k) (Ev.step (fun k => s6 s out V (i + 1) x y b1 b2 ax bx hl (by omega) k) (Ev.step (fun k => s4 s (out ++ [x * 4 + y / 16]) V (i + 1 + 1) (y % 16) z c1 c2 (by omega) cx hl (by simp; omega) k)
      (Ev.step (f := fun _ => some (fin64 s.size (out ++ [x * 4 + y / 16] ++ [y % 16 * 16 + z / 4]) ([], z % 4))) (fun k => sEnd s _ V (i + 1 + 1 + 1) (z % 4) 2 (drop_none c3) hs k) (Ev.now _))))) ?_
    simp only [fin64, une, List.append_assoc, List.cons_append, List.nil_append, List.append_nil]
    rfl
  | x :: y :: z :: t :: r, i, out, hd, ho => by
    obtain ⟨a1, a2, a3⟩ := drop_at hd
    obtain ⟨b1, b2, b3⟩ := drop_at a3
    obtain ⟨c1, c2, c3⟩ := drop_at b3
    obtain ⟨d1, d2, d3⟩ := drop_at c3
    have ax : x < 64 := a2 ▸ hV _ (by rw [List.getD_eq_getElem?_getD, List.getElem?_eq_getElem a1]; exact List.getElem_mem a1)
    have bx : y < 64 := b2 ▸ hV _ (by rw [List.getD_eq_getElem?_getD, List.getElem?_eq_getElem b1]; exact List.getElem_mem b1)
    have cx : z < 64 := c2 ▸ hV _ (by rw [List.getD_eq_getElem?_getD, List.getElem?_eq_getElem c1]; exact List.getElem_mem c1)
    have dx : t < 64 := d2 ▸ hV _ (by rw [List.getD_eq_getElem?_getD, List.getElem?_eq_getElem d1]; exact List.getElem_mem d1)
    have ih := un64_ev s V hs hl hV r (i + 1 + 1 + 1 + 1) (out ++ [x * 4 + y / 16] ++ [y % 16 * 16 + z / 4] ++ [z % 4 * 64 + t]) d3 (by simp; omega)
    refine Ev.eq (Ev.step (fun k => s0 s out V i x a1 a2 ax hl k) (Ev.step (fun k => s6 s out V (i + 1) x y b1 b2 ax bx hl (by omega) k) (Ev.step (fun k => s4 s (out ++ [x * 4 + y / 16]) V (i + 1 + 1) (y % 16) z c1 c2 (by omega) cx hl (by simp; omega) k)
      (Ev.step (fun k => s2 s (out ++ [x * 4 + y / 16] ++ [y % 16 * 16 + z / 4]) V (i + 1 + 1 + 1) (z % 4) t d1 d2 (by omega) dx hl (by simp; omega) k) ih)))) ?_
    simp only [fin64, une, List.append_assoc, List.cons_append, List.nil_append, List.append_nil]
    rfl
def tri (r : List Nat × Nat × Nat) : List Int × Int × Int := (toI r.1, (r.2.1 : Int), (r.2.2 : Int))
theorem from64_ev (s : ByteArray) : Ev (fun k => digest_FromBase64.f k s) (tri (from64 (sN s))) := by
  unfold digest_FromBase64.f
  refine Ev.bind (vals_ev A64 s (by decide)) ?_
  rw [sN64]
  unfold from64
  rw [sN_len]
  by_cases h : s.size > 65536
  · rw [if_pos h, if_pos h]
    exact Ev.neg (by decide) (Ev.now _)
  · rw [if_neg h, if_neg h]
    cases hb : bad al64 (sN s) 0 with
    | some j => exact Ev.neg (by simp) (Ev.now _)
    | none =>
      have hl : ((sN s).map (value al64)).length = s.size := by rw [List.length_map, sN_len]
      simp only []
      refine Ev.pos (by simp) ?_
      by_cases h4 : s.size % 4 = 1
      · rw [if_pos h4]
        exact Ev.pos (by rw [toI_len, hl]; omega) (Ev.now _)
      · rw [if_neg h4]
        refine Ev.neg (by rw [toI_len, hl]; omega) ?_
        have hv : Lt 64 ((sN s).map (value al64)) := value_lt _ (good _ 0 hb)
        have hh := un64_ev s ((sN s).map (value al64)) (by omega) (by rw [hl]; omega) hv ((sN s).map (value al64)) 0 [] (by simp) (by simp)
        rw [toI_len]
        refine Ev.eq hh ?_
        unfold fin64
        by_cases h0 : (une ((sN s).map (value al64))).2 = 0
        · rw [if_pos h0, if_pos h0, List.nil_append]
          rfl
        · rw [if_neg h0, if_neg h0]
          have : s.size ≠ 0 := fun e => h0 (by
            have : (sN s).map (value al64) = [] := List.eq_nil_of_length_eq_zero (by rw [hl, e])
            rw [this]; rfl)
          show (([] : List Int), (21 : Int), (s.size : Int) - 1) = _
          unfold tri
          simp only []
          rw [show ((s.size - 1 : Nat) : Int) = (s.size : Int) - 1 by omega]
          rfl
end Go.Proofs.YtmimipgmhgalaaaGreatDoor.Sha
end
section
namespace Go.Proofs.YtmimipgmhgalaaaGreatDoor.PAll
open Go.RowKit Go.Proofs.YtmimipgmhgalaaaGreatDoorW.PrintWords Go.Proofs.YtmimipgmhgalaaaGreatDoor.Plain Go.Proofs.YtmimipgmhgalaaaGreatDoor.Spec Go.Proofs.YtmimipgmhgalaaaGreatDoor.Sha
set_option linter.unusedVariables false
set_option linter.unusedSimpArgs false
def alB : ByteArray := ⟨#[65, 66, 67, 68, 69, 70, 71, 72, 73, 74, 75, 76, 77, 78, 79, 80, 81, 82, 83, 84, 85, 86, 87, 88, 89, 90, 97, 98, 99, 100, 101, 102, 103, 104, 105, 106, 107, 108, 109, 110, 111, 112, 113, 114, 115, 116, 117, 118, 119, 120, 121, 122, 48, 49, 50, 51, 52, 53, 54, 55, 56, 57, 43, 47]⟩
def chB (n : Nat) : UInt8 := alB.data.toList.getD n 0
def b64L : List Nat → List UInt8
  | [] => []
  | [a] => [chB (a / 4), chB (a % 4 * 16), 61, 61]
  | [a, b] => [chB (a / 4), chB (a % 4 * 16 + b / 16), chB (b % 16 * 4), 61]
  | a :: b :: c :: r => chB (a / 4) :: chB (a % 4 * 16 + b / 16) :: chB (b % 16 * 4 + c / 64) :: chB (c % 64) :: b64L r
def nJ (l : List Nat) (i : Nat) : Nat → Nat
  | 0 => 0
  | j + 1 => nJ l i j * 256 + l.getD (i + j) 0
def sJ (n k : Nat) : Nat := if k = 0 then n / 262144 else if k = 1 then n / 4096 % 64 else if k = 2 then n / 64 % 64 else n % 64
def oJ (n i m : Nat) : Nat → List UInt8
  | 0 => []
  | k + 1 => oJ n i m k ++ [if m < i + k then 61 else chB (sJ n k)]
theorem getD_lt {l : List Nat} (h : Lt 256 l) (i : Nat) : l.getD i 0 < 256 := by
  rw [List.getD_eq_getElem?_getD]
  by_cases hi : i < l.length
  · rw [List.getElem?_eq_getElem hi]; exact h _ (List.getElem_mem hi)
  · rw [List.getElem?_eq_none (by omega)]; exact (by decide)
theorem nJ_lt {l : List Nat} (h : Lt 256 l) (i : Nat) : nJ l i 1 < 256 ∧ nJ l i 2 < 65536 ∧ nJ l i 3 < 16777216 := by
  have h0 := getD_lt h (i + 0)
  have h1 := getD_lt h (i + 1)
  have h2 := getD_lt h (i + 2)
  simp only [nJ]
  omega
theorem nJ_le {l : List Nat} (h : Lt 256 l) (i j : Nat) (hj : j ≤ 3) : nJ l i j < 16777216 := by
  have h3 := nJ_lt h i
  obtain rfl | rfl | rfl | rfl : j = 0 ∨ j = 1 ∨ j = 2 ∨ j = 3 := by omega
  · show 0 < 16777216; decide
  · omega
  · omega
  · omega
theorem sJ_lt (n k : Nat) (h : n < 16777216) : sJ n k < 64 := by unfold sJ; (repeat' split) <;> omega
theorem b64_chunk (l : List Nat) (h : Lt 256 l) (i : Nat) (hi : i < l.length) : b64L (l.drop i) = oJ (nJ l i 3) i l.length 4 ++ b64L (l.drop (i + 3)) := by
  have hg (j : Nat) : l.getD (i + j) 0 = (l.drop i).getD j 0 := by
    rw [List.getD_eq_getElem?_getD, List.getD_eq_getElem?_getD, List.getElem?_drop]
  have hd : l.drop (i + 3) = (l.drop i).drop 3 := by rw [List.drop_drop]
  have hlen : (l.drop i).length = l.length - i := List.length_drop
  have hL : Lt 256 (l.drop i) := fun x hx => h x (List.mem_of_mem_drop hx)
  have e0 := hg 0
  have e1 := hg 1
  have e2 := hg 2
  rw [hd]
  have hn : nJ l i 3 = ((l.drop i).getD 0 0 * 256 + (l.drop i).getD 1 0) * 256 + (l.drop i).getD 2 0 := by
    simp only [nJ, Nat.zero_mul, Nat.zero_add]
    rw [e0, e1, e2]
  rw [hn]
  clear hg hd e0 e1 e2 hn
  generalize l.length = m at *
  generalize l.drop i = d at *
  match d, hL, hlen with
  | [], hL, hlen => simp at hlen; omega
  | [a], hL, hlen =>
    have ha : a < 256 := hL a (by simp)
    obtain rfl : m = i + 1 := by simp at hlen; omega
    clear hlen
    have f0 : ¬ i + 1 < i := by omega
    simp [oJ, sJ, b64L, f0]
    exact ⟨congrArg chB (by omega), congrArg chB (by omega)⟩
  | [a, b], hL, hlen =>
    have ha : a < 256 := hL a (by simp)
    have hb : b < 256 := hL b (by simp)
    obtain rfl : m = i + 2 := by simp at hlen; omega
    clear hlen
    have f0 : ¬ i + 2 < i := by omega
    simp [oJ, sJ, b64L, f0]
    exact ⟨congrArg chB (by omega), congrArg chB (by omega), congrArg chB (by omega)⟩
  | a :: b :: c :: r, hL, hlen =>
    have ha : a < 256 := hL a (by simp)
    have hb : b < 256 := hL b (by simp)
    have hc : c < 256 := hL c (by simp)
    obtain ⟨q, rfl⟩ : ∃ q, m = i + 3 + q := ⟨m - (i + 3), by simp at hlen; omega⟩
    have f0 : ¬ i + 3 + q < i := by omega
    have f1 : ¬ i + 3 + q < i + 1 := by omega
    have f2 : ¬ i + 3 + q < i + 2 := by omega
    have f3 : ¬ i + 3 + q < i + 3 := by omega
    simp only [oJ, sJ, b64L, Nat.add_zero, if_neg f0, if_neg f1, if_neg f2, if_neg f3, List.nil_append, List.cons_append, List.getD_cons_zero, List.getD_cons_succ, List.drop_succ_cons, List.drop_zero, if_true, List.cons.injEq, and_true]
    refine ⟨congrArg chB (by omega), congrArg chB (by simp; omega), congrArg chB (by simp; omega), congrArg chB (by simp; omega)⟩
theorem bs_two (a b : List UInt8) : bs a ++ bs b = bs (a ++ b) := by
  apply toList_inj
  rw [ByteArray.toList_eq, ByteArray.toList_eq]
  simp [bs]
theorem oJ_len (n i m : Nat) : ∀ k, (oJ n i m k).length = k
  | 0 => rfl
  | k + 1 => by simp [oJ, oJ_len n i m k]
theorem al_one (v : Nat) (hv : v < 64) : alB.extract v (v + 1) = bs [chB v] := by
  have h : ∀ v : Fin 64, alB.extract v.val (v.val + 1) = bs [chB v.val] := by decide +kernel
  exact h ⟨v, hv⟩
set_option maxRecDepth 100000 in
set_option maxHeartbeats 4000000 in
theorem wicketlaw11_base64.calls (A0 : Option Addr) (c0 : Nat) (l : List Nat) (w : World) (hl : Lt 256 l) (hs : l.length ≤ 1000000000) (hr0 : Kd.C (Kd.int .u8) w A0 l.length (toI l)) :
    Calls Tryz.prog 40 #[.slice A0 l.length c0] w fun e w' => e = .returned (.string (bs (b64L l))) ∧ Below w.heap.size w w' := by
  obtain ⟨N, hN⟩ : ∃ N, l.length = N := ⟨_, rfl⟩
  have hTL : (toI l).length = N := by rw [toI_len, hN]
  rw [hN] at hr0 hs ⊢
  have HR := Lib.hid hr0
  have KN := Lib.hid hN
  have KL := Lib.hid hl
  have KT := Lib.hid hTL
  clear hr0 hN hl hTL
  go_enter Tryz.func40, Tryz.ntmps40
  go_wp2_with (fail)
  rw [show (⟨#[65, 66, 67, 68, 69, 70, 71, 72, 73, 74, 75, 76, 77, 78, 79, 80, 81, 82, 83, 84, 85, 86, 87, 88, 89, 90, 97, 98, 99, 100, 101, 102, 103, 104, 105, 106, 107, 108, 109, 110, 111, 112, 113, 114, 115, 116, 117, 118, 119, 120, 121, 122, 48, 49, 50, 51, 52, 53, 54, 55, 56, 57, 43, 47]⟩ : ByteArray) = alB from rfl]
  go_loopw [4, 5] (fun v4 v5 wr => ∃ (out : List UInt8) (i : Nat), v4 = .string (bs out) ∧ v5 = .int .i64 (i : Int) ∧ Hid (out ++ b64L (l.drop i) = b64L l) ∧ i ≤ N + 3 ∧ out.length ≤ 2 * i ∧ Below w.heap.size w wr) (fun _ v5 _ => N - (intOf v5).toNat)
  case atStart => exact ⟨[], 0, rfl, rfl, Lib.hid (by simp), by omega, by simp, Below.refl _ _⟩
  case round =>
    obtain ⟨out, i, rfl, rfl, hO, hi3, hol, hB⟩ := hrel
    have HBr := Lib.hid hB
    clear hB
    by_cases hlt : i < N
    · go_wp2_with (fail)
      go_loopw [6, 7] (fun v6 v7 ws => ∃ j : Nat, j ≤ 3 ∧ v6 = .int .i64 ((nJ l i j : Nat) : Int) ∧ v7 = .int .i64 (j : Int) ∧ Below w.heap.size w ws) (fun _ v7 _ => 3 - (intOf v7).toNat)
      case atStart => exact ⟨0, by omega, rfl, rfl, HBr.out⟩
      case round =>
        clear HBr
        obtain ⟨j, hj, rfl, rfl, hB⟩ := hrel
        have hnj := nJ_le KL.out i j hj
        by_cases hj3 : j < 3
        · have hw1 : IntKind.i64.wrap (((nJ l i j : Nat) : Int) * 256) = ((nJ l i j : Nat) : Int) * 256 := IntWalk.i64_in _ (by omega)
          have hw2 : IntKind.i64.wrap ((i : Int) + (j : Int)) = (i : Int) + (j : Int) := IntWalk.i64_in _ (by omega)
          have hw5 : IntKind.i64.wrap ((j : Int) + 1) = (j : Int) + 1 := IntWalk.i64_in _ (by omega)
          by_cases hin : i + j < N
          · obtain ⟨ad, hA, hc⟩ := Kd.at_int HR.out ((i + j : Nat) : Int) (by omega) (by omega)
            subst hA
            rw [rd_toI] at hc
            have hc1 := (hB.cell (World.block_lt_of_cell? w _ hc)).trans hc
            rw [Int.toNat_natCast] at hc1
            have hg := getD_lt KL.out (i + j)
            have hnx : nJ l i (j + 1) = nJ l i j * 256 + l.getD (i + j) 0 := rfl
            generalize l.getD (i + j) 0 = d at *
            have hw3 : IntKind.i64.wrap (((nJ l i j : Nat) : Int) * 256 + (d : Int)) = ((nJ l i j : Nat) : Int) * 256 + (d : Int) := IntWalk.i64_in _ (by omega)
            have hw4 : IntKind.i64.wrap (d : Int) = (d : Int) := IntWalk.i64_in _ (by omega)
            have HBs := Lib.hid hB
            have HNX := Lib.hid hnx
            clear hc hB hnx
            go_wp2_with (fail)
            go_roundw
            case rel => exact ⟨j + 1, by omega, by rw [HNX.out]; go_num, by go_num, HBs.out⟩
            case measure => simp [intOf]; omega
          · have hnx : nJ l i (j + 1) = nJ l i j * 256 := by
              show nJ l i j * 256 + l.getD (i + j) 0 = _
              rw [List.getD_eq_getElem?_getD, List.getElem?_eq_none (by rw [KN.out]; omega)]
              rfl
            have HBs := Lib.hid hB
            have HNX := Lib.hid hnx
            clear hB hnx
            go_wp2_with (fail)
            go_roundw
            case rel => exact ⟨j + 1, by omega, by rw [HNX.out]; go_num, by go_num, HBs.out⟩
            case measure => simp [intOf]; omega
        · have hj4 : j = 3 := by omega
          subst hj4
          generalize hn3 : nJ l i 3 = n at *
          have HN3 := Lib.hid hn3
          have hx0 : (n : Int) / 262144 = ((sJ n 0 : Nat) : Int) := by simp [sJ]
          have hx1 : (n : Int) / 4096 % 64 = ((sJ n 1 : Nat) : Int) := by simp [sJ]
          have hx2 : (n : Int) / 64 % 64 = ((sJ n 2 : Nat) : Int) := by simp [sJ]
          have hx3 : (n : Int) % 64 = ((sJ n 3 : Nat) : Int) := by simp [sJ]
          have HX := Lib.hid (And.intro hx0 (And.intro hx1 (And.intro hx2 hx3)))
          have HBs := Lib.hid hB
          clear hB hn3 hx0 hx1 hx2 hx3
          go_wp2_with (fail)
          simp only [HX.out.1, HX.out.2.1, HX.out.2.2.1, HX.out.2.2.2]
          have HK0 := Lib.hid (blk_new wr (.cells #[.int .i64 ((sJ n 0 : Nat) : Int), .int .i64 ((sJ n 1 : Nat) : Int), .int .i64 ((sJ n 2 : Nat) : Int), .int .i64 ((sJ n 3 : Nat) : Int)] 3))
          have HB0 := Lib.hid (below_alloc HBs.out (.cells #[.int .i64 ((sJ n 0 : Nat) : Int), .int .i64 ((sJ n 1 : Nat) : Int), .int .i64 ((sJ n 2 : Nat) : Int), .int .i64 ((sJ n 3 : Nat) : Int)] 3))
          generalize wr.heap.size = b at HK0 ⊢
          clear HBs HX
          go_loopw [4, 9] (fun v4 v9 ws => ∃ k : Nat, k ≤ 4 ∧ v9 = .int .i64 (k : Int) ∧ v4 = .string (bs (out ++ oJ n i N k)) ∧ Hid (ws.heap[b]? = some (.cells #[.int .i64 ((sJ n 0 : Nat) : Int), .int .i64 ((sJ n 1 : Nat) : Int), .int .i64 ((sJ n 2 : Nat) : Int), .int .i64 ((sJ n 3 : Nat) : Int)] 3)) ∧ Below w.heap.size w ws) (fun _ v9 _ => 4 - (intOf v9).toNat)
          case atStart => exact ⟨0, by omega, rfl, by simp [oJ], HK0, HB0.out⟩
          case round =>
            clear HK0 HB0
            obtain ⟨k, hk, rfl, rfl, HK, hB⟩ := hrel
            have HBs := Lib.hid hB
            have hoj := oJ_len n i N k
            have hsz : (bs (out ++ oJ n i N k)).size ≤ 2000000100 := by rw [bs_size, List.length_append]; omega
            clear hB
            by_cases hk4 : k < 4
            · have hw2 : IntKind.i64.wrap ((i : Int) + (k : Int)) = (i : Int) + (k : Int) := IntWalk.i64_in _ (by omega)
              have hw5 : IntKind.i64.wrap ((k : Int) + 1) = (k : Int) + 1 := IntWalk.i64_in _ (by omega)
              by_cases hin : N < i + k
              · have HO4 := Lib.hid (show bs (out ++ oJ n i N k) ++ (⟨#[61]⟩ : ByteArray) = bs (out ++ oJ n i N (k + 1)) by simp only [oJ]; rw [if_pos hin, ← List.append_assoc]; exact bs_two _ [61])
                generalize bs (out ++ oJ n i N k) = S at *
                go_wp2_with (fail)
                go_roundw
                case rel => exact ⟨k + 1, by omega, by go_num, by rw [HO4.out], HK, HBs.out⟩
                case measure => simp [intOf]; omega
              · have HO4 := Lib.hid (show bs (out ++ oJ n i N k) ++ bs [chB (sJ n k)] = bs (out ++ oJ n i N (k + 1)) by simp only [oJ]; rw [if_neg hin, bs_two, List.append_assoc])
                have hv := sJ_lt n k hnj
                have hal := al_one (sJ n k) hv
                have hsz1 : (bs [chB (sJ n k)]).size = 1 := rfl
                have hals : alB.size = 64 := rfl
                have hc : wr.cell? ⟨b, k, none⟩ = some (.int .i64 ((sJ n k : Nat) : Int)) := by
                  rw [Lib.cell_of_heap HK.out]
                  obtain rfl | rfl | rfl | rfl : k = 0 ∨ k = 1 ∨ k = 2 ∨ k = 3 := by omega
                  all_goals rfl
                generalize bs (out ++ oJ n i N k) = S at *
                generalize sJ n k = v at *
                have hw6 : IntKind.i64.wrap ((v : Int) + 1) = (v : Int) + 1 := IntWalk.i64_in _ (by omega)
                have hsl : ∀ W : World, (Instr.slice 9 (.string alB) (some (.int .i64 (v : Int))) (some (.int .i64 ((v : Int) + 1))) none).run Tryz.prog W = .ok (.string (bs [chB v])) W := by
                  intro W
                  rw [← hal]
                  have e0 : (0 : Int) ≤ (v : Int) := by omega
                  have e1 : (v : Int) ≤ (v : Int) + 1 := by omega
                  have e2 : (v : Int) + 1 ≤ ((alB.size : Nat) : Int) := by rw [hals]; omega
                  have e3 : (0 : Int) ≤ (v : Int) + 1 := by omega
                  have e4 : ((v : Int) + 1).toNat = v + 1 := by omega
                  have e5 : ¬ ((v : Int) + 1 < 0) := by omega
                  simp [Instr.slice, Instr.sliceBounds, run_underlying Tryz.underlying9, go_sem, e0, e1, e2, e3, e4, e5]
                generalize bs [chB v] = C at *
                have HAL := Lib.hid hal
                clear hal
                go_wp2_with (fail)
                go_quiet (fail)
                go_wp2_with (fail)
                go_roundw
                case rel => exact ⟨k + 1, by omega, by go_num, by rw [HO4.out], HK, pw_below_drewN HBs.out _⟩
                case measure => simp [intOf]; omega
            · have hk5 : k = 4 := by omega
              subst hk5
              have hch := b64_chunk l KL.out i (by rw [KN.out]; exact hlt)
              rw [HN3.out, KN.out] at hch
              have HCh := Lib.hid (show (out ++ oJ n i N 4) ++ b64L (l.drop (i + 3)) = b64L l by rw [← hO.out, hch, List.append_assoc])
              have hw5 : IntKind.i64.wrap ((i : Int) + 3) = (i : Int) + 3 := IntWalk.i64_in _ (by omega)
              have hln : (out ++ oJ n i N 4).length ≤ 2 * (i + 3) := by rw [List.length_append, hoj]; omega
              clear hch
              generalize out ++ oJ n i N 4 = out2 at *
              go_wp2_with (fail)
              go_roundw
              case rel => exact ⟨out2, i + 3, rfl, by go_num, HCh, by omega, hln, HBs.out⟩
              case measure => simp [intOf]; omega
    · go_wp2_with (fail)
      go_ret
      refine ⟨?_, HBr.out⟩
      have h := hO.out
      rw [List.drop_eq_nil_of_le (by rw [KN.out]; omega)] at h
      rw [← h]
      simp [b64L]
end Go.Proofs.YtmimipgmhgalaaaGreatDoor.PAll
end
section
namespace Go.Proofs.YtmimipgmhgalaaaGreatDoor.PAll
open Go.RowKit Go.Proofs.YtmimipgmhgalaaaGreatDoorW.PrintWords Go.Proofs.YtmimipgmhgalaaaGreatDoorW.PrintLast Go.Proofs.YtmimipgmhgalaaaGreatDoorW.PrintMore
attribute [local go_sem] max2_int min2_int max_two min_two max_three min_three max_four min_four
set_option linter.unusedVariables false
set_option linter.unusedSimpArgs false
def wicketref03_Letter.f (a0 : Int) : Option (Bool) := if a0 = 33 then (some true) else (if a0 ≥ 35 then (if a0 ≤ 91 then (some true) else (if a0 ≥ 93 then (some (decide (a0 ≤ 126))) else (some false))) else (if a0 ≥ 93 then (some (decide (a0 ≤ 126))) else (some false)))
set_option maxHeartbeats 8000000 in
set_option maxRecDepth 100000 in
theorem wicketref03_Letter.calls (a0 : Int) (r : Bool) (w : World) (h : wicketref03_Letter.f a0 = some r) :
 Calls Tryz.prog 74 #[.int .u8 a0] w fun e w' => e = .returned (.bool r) ∧ Drawn0 w w' := by
 have H : (if a0 = 33 then (some true) else (if a0 ≥ 35 then (if a0 ≤ 91 then (some true) else (if a0 ≥ 93 then (some (decide (a0 ≤ 126))) else (some false))) else (if a0 ≥ 93 then (some (decide (a0 ≤ 126))) else (some false)))) = some r := h
 clear h
 by_cases c2 : a0 = 33
 · rw [if_pos c2] at H
   have c2b0 : (a0 == 33) = true := beq_iff_eq.mpr c2
   have c2b1 : (a0 != 33) = false := bne_eq_false_iff_eq.mpr c2
   clear c2
   obtain rfl := Option.some.inj H
   go_enter Tryz.func74, Tryz.ntmps74
   go_wp2
   go_ret
   exact ⟨by (rfl), by repeat (exact Drawn0.refl _)⟩
 · rw [if_neg c2] at H
   have c2b0 : (a0 == 33) = false := beq_eq_false_iff_ne.mpr c2
   have c2b1 : (a0 != 33) = true := bne_iff_ne.mpr c2
   by_cases c3 : a0 ≥ 35
   · rw [if_pos c3] at H
     have c3b0 : decide (35 ≤ a0) = true := decide_eq_true c3
     clear c3
     by_cases c4 : a0 ≤ 91
     · rw [if_pos c4] at H
       have c4b0 : decide (a0 ≤ 91) = true := decide_eq_true c4
       clear c4
       obtain rfl := Option.some.inj H
       go_enter Tryz.func74, Tryz.ntmps74
       go_wp2
       go_ret
       exact ⟨by (rfl), by repeat (exact Drawn0.refl _)⟩
     · rw [if_neg c4] at H
       have c4b0 : decide (a0 ≤ 91) = false := decide_eq_false c4
       clear c4
       by_cases c5 : a0 ≥ 93
       · rw [if_pos c5] at H
         have c5b0 : decide (93 ≤ a0) = true := decide_eq_true c5
         clear c5
         obtain rfl := Option.some.inj H
         go_enter Tryz.func74, Tryz.ntmps74
         go_wp2
         go_ret
         exact ⟨by (rfl), by repeat (exact Drawn0.refl _)⟩
       · rw [if_neg c5] at H
         have c5b0 : decide (93 ≤ a0) = false := decide_eq_false c5
         clear c5
         obtain rfl := Option.some.inj H
         go_enter Tryz.func74, Tryz.ntmps74
         go_wp2
         go_ret
         exact ⟨by (rfl), by repeat (exact Drawn0.refl _)⟩
   · rw [if_neg c3] at H
     have c3b0 : decide (35 ≤ a0) = false := decide_eq_false c3
     clear c3
     by_cases c6 : a0 ≥ 93
     · rw [if_pos c6] at H
       have c6b0 : decide (93 ≤ a0) = true := decide_eq_true c6
       clear c6
       obtain rfl := Option.some.inj H
       go_enter Tryz.func74, Tryz.ntmps74
       go_wp2
       go_ret
       exact ⟨by (rfl), by repeat (exact Drawn0.refl _)⟩
     · rw [if_neg c6] at H
       have c6b0 : decide (93 ≤ a0) = false := decide_eq_false c6
       clear c6
       obtain rfl := Option.some.inj H
       go_enter Tryz.func74, Tryz.ntmps74
       go_wp2
       go_ret
       exact ⟨by (rfl), by repeat (exact Drawn0.refl _)⟩
attribute [local go_sem] str_gtr_ str_leq_ str_geq_
def wicketref03_put.l0 : Nat → List ByteArray → ByteArray → List ByteArray → Bool → Int → Option (List ByteArray)
 | 0, _, _, _, _, _ => none
 | k + 1, x0, x1, x5, x6, x7 => if x7 < (x0.length : Int) then (if 0 ≤ x7 then (if (rdOf ByteArray.empty x0 x7).toList = x1.toList then (some x0) else (if x6 = true then (if x5.length < 8796093022208 then (wicketref03_put.l0 k x0 x1 (x5 ++ [rdOf ByteArray.empty x0 x7]) x6 (wrap64 (x7 + 1))) else (none)) else (if (Op.bytesLess x1.toList ((rdOf ByteArray.empty x0 x7).toList)) = true then (if x5.length < 8796093022208 then ((some (x5 ++ [x1] : List ByteArray)).bind fun y325 => (if y325.length < 8796093022208 then (wicketref03_put.l0 k x0 x1 (y325 ++ [rdOf ByteArray.empty x0 x7]) true (wrap64 (x7 + 1))) else (none))) else (none)) else (if x5.length < 8796093022208 then (wicketref03_put.l0 k x0 x1 (x5 ++ [rdOf ByteArray.empty x0 x7]) x6 (wrap64 (x7 + 1))) else (none))))) else (none)) else (if x6 = true then (some x5) else (if x5.length < 8796093022208 then (some (x5 ++ [x1])) else (none)))
def wicketref03_put.f (k : Nat) (l0 : List ByteArray) (a1 : ByteArray) : Option (List ByteArray) := wicketref03_put.l0 k l0 a1 ([] : List ByteArray) false 0
set_option maxHeartbeats 8000000 in
set_option maxRecDepth 100000 in
theorem wicketref03_put.calls (k : Nat) (P0_ : Nat → Prop) (u9000_ : Value) (l0 : List ByteArray) (a1 : ByteArray) (r : List ByteArray) (w0 w : World) (hB : Below w0.heap.size w0 w) (ho0 : Kd.R Kd.string 9 w w0.heap.size P0_ u9000_ l0) (h : wicketref03_put.f k l0 a1 = some r) :
 Calls Tryz.prog 75 #[u9000_, .string a1] w fun e w' => ∃ v0_ : Value, e = .returned (v0_) ∧ Kd.R Kd.string 9 w' w0.heap.size (fun k_ => (P0_ k_ ∨ w.heap.size ≤ k_)) v0_ r ∧ Below w0.heap.size w0 w' ∧ Kept w w' (fun k_ => P0_ k_) := by
 have HO0 := Aside0.mk (show Kd.R Kd.string 9 w w0.heap.size (fun k_ => (P0_ k_ ∨ w.heap.size ≤ k_)) u9000_ l0 from Kd.R_mono ho0 (fun k_ hk => (.inl hk)))
 have HK := Aside0.mk (Kept.refl w (fun k_ => P0_ k_))
 have HW0 := Aside0.mk hB.size
 have HB := Aside0.mk hB
 clear hB
 have H : (wicketref03_put.l0 k l0 a1 ([] : List ByteArray) false 0) = some r := h
 clear h
 have H' := Aside0.mk H
 clear H
 go_enter Tryz.func75, Tryz.ntmps75
 go_wp2
 go_loopg [5, 6, 7] k (fun kq v5 v6 v7 w' => ∃ (x5_1 : List ByteArray) (x6_1 : Bool) (x7_1 : Int), v6 = .bool x6_1 ∧ v7 = .int .i64 x7_1 ∧ Aside0 (wicketref03_put.l0 kq l0 a1 x5_1 x6_1 x7_1 = some r) ∧ Aside0 (kq ≤ k) ∧ Aside0 (Kd.R Kd.string 9 w' w0.heap.size (fun k_ => (P0_ k_ ∨ w.heap.size ≤ k_) ∧ some k_ ≠ (v5 : Value).ownBlock) u9000_ l0) ∧ Aside0 (Kd.R Kd.string 9 w' w0.heap.size (fun k_ => (P0_ k_ ∨ w.heap.size ≤ k_) ∧ some k_ ≠ (u9000_ : Value).ownBlock) v5 x5_1) ∧ Aside0 (Kept w w' (fun k_ => P0_ k_)) ∧ Aside0 (Below w0.heap.size w0 w'))
 case atStart => exact ⟨(([] : List ByteArray)), (false), (0), rfl, rfl, H', ⟨Nat.le_refl _⟩, ⟨by (with_reducible repeat (first | apply Kd.R_alloc  | apply Kd.R_drewN  | apply Kd.R_drew)); exact Kd.R_mono HO0.out (fun _ hk => ⟨hk, (by simp [Value.ownBlock])⟩)⟩, ⟨by (exact Kd.R_nil _ _ _ _ _)⟩, ⟨HK.out⟩, ⟨HB.out⟩⟩
 case round =>
  clear H'
  obtain ⟨x5_1, x6_1, x7_1, rfl, rfl, HA, HK1, HO_0, HO_5, HK, HB⟩ := hrel
  cases gk with
  | zero => exact absurd HA.out (by simp [wicketref03_put.l0])
  | succ k1 =>
   have H := HA.out
   clear HA
   simp only [wicketref03_put.l0] at H
   by_cases c3 : x7_1 < (l0.length : Int)
   · rw [if_pos c3] at H
     have c3b0 : decide (x7_1 < (l0.length : Int)) = true := decide_eq_true c3
     clear c3
     by_cases c4 : 0 ≤ x7_1
     · rw [if_pos c4] at H
       have c4b0 : decide (0 ≤ x7_1) = true := decide_eq_true c4
       clear c4
       by_cases c5 : (rdOf ByteArray.empty l0 x7_1).toList = a1.toList
       · rw [if_pos c5] at H
         have c5b0 : ((rdOf ByteArray.empty l0 x7_1).toList == a1.toList) = true := beq_iff_eq.mpr c5
         have c5b1 : ((rdOf ByteArray.empty l0 x7_1).toList != a1.toList) = false := bne_eq_false_iff_eq.mpr c5
         clear c5
         obtain rfl := Option.some.inj H
         obtain ⟨Ao6, co6, eo6⟩ := Kd.R_slice HO_0.out
         subst eo6
         have p319 : 0 ≤ (x7_1 : Int) := of_decide_eq_true (by assumption)
         have q319 : x7_1 < (l0.length : Int) := of_decide_eq_true (by assumption)
         obtain ⟨ad319, e319, hx319_0⟩ := Kd.at_string (Kd.R_reads' HO_0.out).2.2 x7_1 p319 q319
         cases e319
         replace p319 := eq_true p319
         replace q319 := eq_true q319
         go_wp2
         go_ret
         exact ⟨_, rfl, by (with_reducible repeat (first | apply Kd.R_alloc  | apply Kd.R_drewN  | apply Kd.R_drew)); exact Kd.R_mono HO_0.out (fun _ hk => hk.1), by (with_reducible exact HB.out), by (with_reducible exact HK.out)⟩
       · rw [if_neg c5] at H
         have c5b0 : ((rdOf ByteArray.empty l0 x7_1).toList == a1.toList) = false := beq_eq_false_iff_ne.mpr c5
         have c5b1 : ((rdOf ByteArray.empty l0 x7_1).toList != a1.toList) = true := bne_iff_ne.mpr c5
         by_cases c7 : x6_1 = true
         · subst c7
           have H1 : (if x5_1.length < 8796093022208 then (wicketref03_put.l0 k1 l0 a1 (x5_1 ++ [rdOf ByteArray.empty l0 x7_1]) true (wrap64 (x7_1 + 1))) else (none)) = some r := by rw [if_pos rfl] at H; exact H
           clear H
           have H := H1
           clear H1
           by_cases c8 : x5_1.length < 8796093022208
           · rw [if_pos c8] at H
             have LMc8 := Aside0.mk c8
             clear c8
             obtain ⟨y321, hy321⟩ : ∃ y_ : List ByteArray, y_ = (x5_1 ++ [rdOf ByteArray.empty l0 x7_1]) := ⟨_, rfl⟩
             replace H : (wicketref03_put.l0 k1 l0 a1 y321 true (wrap64 (x7_1 + 1))) = some r := by (rw [hy321]; with_reducible exact H)
             have Ny321 := Aside0.mk hy321
             clear hy321
             have H' := Aside0.mk H
             clear H
             obtain ⟨Ao9, co9, eo9⟩ := Kd.R_slice HO_0.out
             subst eo9
             have p319 : 0 ≤ (x7_1 : Int) := of_decide_eq_true (by assumption)
             have q319 : x7_1 < (l0.length : Int) := of_decide_eq_true (by assumption)
             obtain ⟨ad319, e319, hx319_0⟩ := Kd.at_string (Kd.R_reads' HO_0.out).2.2 x7_1 p319 q319
             cases e319
             replace p319 := eq_true p319
             replace q319 := eq_true q319
             have p320 : 0 ≤ (x7_1 : Int) := of_decide_eq_true (by assumption)
             have q320 : x7_1 < (l0.length : Int) := of_decide_eq_true (by assumption)
             obtain ⟨ad320, e320, hx320_0⟩ := Kd.at_string (Kd.R_reads' HO_0.out).2.2 x7_1 p320 q320
             obtain rfl : ad319 = ad320 := (by injection e320)
             replace p320 := eq_true p320
             replace q320 := eq_true q320
             go_wp2_with (first | ((with_reducible refine gate_builtin (b := .append) (xs := #[.tmp 35, .tmp 40]) rfl ?_); at_builtin; refine Kd.R_append Kd.string (w0 := w0) w0.heap.size rfl (.tmp 35) (.tmp 40) 38 9 (.string ⟨#[]⟩) 16 rfl Tryz.underlying38 info9 rfl (by decide) (by omega) u5 x5_1 (rdOf ByteArray.empty l0 x7_1) [.string (rdOf ByteArray.empty l0 x7_1)] (fun k_ => (P0_ k_ ∨ w.heap.size ≤ k_) ∧ some k_ ≠ (.slice (some ad319) l0.length co9 : Value).ownBlock) (fun _ => False) rfl rfl ?aP (fun _ hk => hk.elim) ?aF ?aO ?aB ?aS ?aL ?_; (case aP => exact rfl); (case aB => exact HB.out); (case aF => exact (fun k_ hk => ⟨(.inr (Nat.le_trans (by exact HK.out.1) hk)), Kd.fresh' (Kd.R_lt HO_0.out) k_ hk⟩)); (case aO => exact HO_5.out); (case aS => exact (below_size HB.out)); (case aL => have := LMc8.out; omega); intro v322 w10 ho hb hg hat; rw [← Ny321.out] at ho; have n0_ := Aside0.mk (Kd.R_after (ok := (fun k_ => (P0_ k_ ∨ w.heap.size ≤ k_))) HO_0.out hg hat); have n1_ := Aside0.mk hb; have n2_ := Aside0.mk (Kept.of_grown (S := (fun k_ => P0_ k_)) hg HK.out (fun k_ e_ => (HO_5.out.1 k_ e_).1)); have n3_ := Aside0.mk ho; clear HO_0 HB; clear HK HO_5; have HO_0 := n0_; have HB := n1_; have HK := n2_; have HO323 := n3_; clear n0_ n1_ n2_ n3_; clear ho hb hg hat))
             go_roundg k1
             case measure => have := HK1.out; omega
             case rel => exact ⟨(y321), (true), (wrap64 (x7_1 + 1)), rfl, rfl, H', ⟨by have := HK1.out; omega⟩, ⟨HO_0.out⟩, ⟨HO323.out⟩, ⟨HK.out⟩, ⟨HB.out⟩⟩
           · rw [if_neg c8] at H
             exact absurd H (by simp)
         · replace c7 := Bool.eq_false_iff.mpr c7
           subst c7
           have H1 : (if (Op.bytesLess a1.toList ((rdOf ByteArray.empty l0 x7_1).toList)) = true then (if x5_1.length < 8796093022208 then ((some (x5_1 ++ [a1] : List ByteArray)).bind fun y325 => (if y325.length < 8796093022208 then (wicketref03_put.l0 k1 l0 a1 (y325 ++ [rdOf ByteArray.empty l0 x7_1]) true (wrap64 (x7_1 + 1))) else (none))) else (none)) else (if x5_1.length < 8796093022208 then (wicketref03_put.l0 k1 l0 a1 (x5_1 ++ [rdOf ByteArray.empty l0 x7_1]) false (wrap64 (x7_1 + 1))) else (none))) = some r := by rw [if_neg (show ¬ (false = true) by decide)] at H; exact H
           clear H
           have H := H1
           clear H1
           by_cases c11 : (Op.bytesLess a1.toList ((rdOf ByteArray.empty l0 x7_1).toList)) = true
           · rw [if_pos c11] at H
             have c11b0 : (Op.bytesLess a1.toList ((rdOf ByteArray.empty l0 x7_1).toList)) = true := c11
             clear c11
             by_cases c12 : x5_1.length < 8796093022208
             · rw [if_pos c12] at H
               have LMc12 := Aside0.mk c12
               clear c12
               obtain ⟨y325, hy325⟩ : ∃ y_ : List ByteArray, y_ = (x5_1 ++ [a1]) := ⟨_, rfl⟩
               replace H : (if y325.length < 8796093022208 then (wicketref03_put.l0 k1 l0 a1 (y325 ++ [rdOf ByteArray.empty l0 x7_1]) true (wrap64 (x7_1 + 1))) else (none)) = some r := by (have H2_ := (Option.bind_some _ _).symm.trans H; rw [hy325]; with_reducible exact H2_)
               have Ny325 := Aside0.mk hy325
               clear hy325
               by_cases c13 : y325.length < 8796093022208
               · rw [if_pos c13] at H
                 have LMc13 := Aside0.mk c13
                 clear c13
                 obtain ⟨y329, hy329⟩ : ∃ y_ : List ByteArray, y_ = (y325 ++ [rdOf ByteArray.empty l0 x7_1]) := ⟨_, rfl⟩
                 replace H : (wicketref03_put.l0 k1 l0 a1 y329 true (wrap64 (x7_1 + 1))) = some r := by (rw [hy329]; with_reducible exact H)
                 have Ny329 := Aside0.mk hy329
                 clear hy329
                 have H' := Aside0.mk H
                 clear H
                 obtain ⟨Ao14, co14, eo14⟩ := Kd.R_slice HO_0.out
                 subst eo14
                 have p319 : 0 ≤ (x7_1 : Int) := of_decide_eq_true (by assumption)
                 have q319 : x7_1 < (l0.length : Int) := of_decide_eq_true (by assumption)
                 obtain ⟨ad319, e319, hx319_0⟩ := Kd.at_string (Kd.R_reads' HO_0.out).2.2 x7_1 p319 q319
                 cases e319
                 replace p319 := eq_true p319
                 replace q319 := eq_true q319
                 have p324 : 0 ≤ (x7_1 : Int) := of_decide_eq_true (by assumption)
                 have q324 : x7_1 < (l0.length : Int) := of_decide_eq_true (by assumption)
                 obtain ⟨ad324, e324, hx324_0⟩ := Kd.at_string (Kd.R_reads' HO_0.out).2.2 x7_1 p324 q324
                 obtain rfl : ad319 = ad324 := (by injection e324)
                 replace p324 := eq_true p324
                 replace q324 := eq_true q324
                 go_wp2_with (first | ((with_reducible refine gate_builtin (b := .append) (xs := #[.tmp 31, .tmp 33]) rfl ?_); at_builtin; refine Kd.R_append Kd.string (w0 := w0) w0.heap.size rfl (.tmp 31) (.tmp 33) 38 9 (.string ⟨#[]⟩) 16 rfl Tryz.underlying38 info9 rfl (by decide) (by omega) u5 x5_1 a1 [.string a1] (fun k_ => (P0_ k_ ∨ w.heap.size ≤ k_) ∧ some k_ ≠ (.slice (some ad319) l0.length co14 : Value).ownBlock) (fun _ => False) rfl rfl ?aP (fun _ hk => hk.elim) ?aF ?aO ?aB ?aS ?aL ?_; (case aP => exact rfl); (case aB => exact HB.out); (case aF => exact (fun k_ hk => ⟨(.inr (Nat.le_trans (by exact HK.out.1) hk)), Kd.fresh' (Kd.R_lt HO_0.out) k_ hk⟩)); (case aO => exact HO_5.out); (case aS => exact (below_size HB.out)); (case aL => have := LMc12.out; omega); intro v326 w15 ho hb hg hat; rw [← Ny325.out] at ho; have n0_ := Aside0.mk (Kd.R_after (ok := (fun k_ => (P0_ k_ ∨ w.heap.size ≤ k_))) HO_0.out hg hat); have n1_ := Aside0.mk hb; have n2_ := Aside0.mk (Kept.of_grown (S := (fun k_ => P0_ k_)) hg HK.out (fun k_ e_ => (HO_5.out.1 k_ e_).1)); have n3_ := Aside0.mk ho; clear HO_0 HB; clear HK HO_5; have HO_0 := n0_; have HB := n1_; have HK := n2_; have HO327 := n3_; clear n0_ n1_ n2_ n3_; clear ho hb hg hat; have p328 : 0 ≤ (x7_1 : Int) := of_decide_eq_true (by assumption); have q328 : x7_1 < (l0.length : Int) := of_decide_eq_true (by assumption); obtain ⟨ad328, e328, hx328_0⟩ := Kd.at_string (Kd.R_reads' HO_0.out).2.2 x7_1 p328 q328; obtain rfl : ad319 = ad328 := (by injection e328); replace p328 := eq_true p328; replace q328 := eq_true q328) | ((with_reducible refine gate_builtin (b := .append) (xs := #[.tmp 35, .tmp 40]) rfl ?_); at_builtin; refine Kd.R_append Kd.string (w0 := w0) w0.heap.size rfl (.tmp 35) (.tmp 40) 38 9 (.string ⟨#[]⟩) 16 rfl Tryz.underlying38 info9 rfl (by decide) (by omega) v326 y325 (rdOf ByteArray.empty l0 x7_1) [.string (rdOf ByteArray.empty l0 x7_1)] (fun k_ => (P0_ k_ ∨ w.heap.size ≤ k_) ∧ some k_ ≠ (.slice (some ad319) l0.length co14 : Value).ownBlock) (fun _ => False) rfl rfl ?aP (fun _ hk => hk.elim) ?aF ?aO ?aB ?aS ?aL ?_; (case aP => exact rfl); (case aB => exact HB.out); (case aF => exact (fun k_ hk => ⟨(.inr (Nat.le_trans (by exact HK.out.1) hk)), Kd.fresh' (Kd.R_lt HO_0.out) k_ hk⟩)); (case aO => exact HO327.out); (case aS => exact (below_size HB.out)); (case aL => have := LMc13.out; omega); intro v330 w16 ho hb hg hat; rw [← Ny329.out] at ho; have n0_ := Aside0.mk (Kd.R_after (ok := (fun k_ => (P0_ k_ ∨ w.heap.size ≤ k_))) HO_0.out hg hat); have n1_ := Aside0.mk hb; have n2_ := Aside0.mk (Kept.of_grown (S := (fun k_ => P0_ k_)) hg HK.out (fun k_ e_ => (HO327.out.1 k_ e_).1)); have n3_ := Aside0.mk ho; clear HO_0 HB; clear HK HO327; have HO_0 := n0_; have HB := n1_; have HK := n2_; have HO331 := n3_; clear n0_ n1_ n2_ n3_; clear ho hb hg hat))
                 go_roundg k1
                 case measure => have := HK1.out; omega
                 case rel => exact ⟨(y329), (true), (wrap64 (x7_1 + 1)), rfl, rfl, H', ⟨by have := HK1.out; omega⟩, ⟨HO_0.out⟩, ⟨HO331.out⟩, ⟨HK.out⟩, ⟨HB.out⟩⟩
               · rw [if_neg c13] at H
                 exact absurd H (by simp)
             · rw [if_neg c12] at H
               exact absurd H (by simp)
           · rw [if_neg c11] at H
             have c11b0 : (Op.bytesLess a1.toList ((rdOf ByteArray.empty l0 x7_1).toList)) = false := by simpa using c11
             clear c11
             by_cases c17 : x5_1.length < 8796093022208
             · rw [if_pos c17] at H
               have LMc17 := Aside0.mk c17
               clear c17
               obtain ⟨y333, hy333⟩ : ∃ y_ : List ByteArray, y_ = (x5_1 ++ [rdOf ByteArray.empty l0 x7_1]) := ⟨_, rfl⟩
               replace H : (wicketref03_put.l0 k1 l0 a1 y333 false (wrap64 (x7_1 + 1))) = some r := by (rw [hy333]; with_reducible exact H)
               have Ny333 := Aside0.mk hy333
               clear hy333
               have H' := Aside0.mk H
               clear H
               obtain ⟨Ao18, co18, eo18⟩ := Kd.R_slice HO_0.out
               subst eo18
               have p319 : 0 ≤ (x7_1 : Int) := of_decide_eq_true (by assumption)
               have q319 : x7_1 < (l0.length : Int) := of_decide_eq_true (by assumption)
               obtain ⟨ad319, e319, hx319_0⟩ := Kd.at_string (Kd.R_reads' HO_0.out).2.2 x7_1 p319 q319
               cases e319
               replace p319 := eq_true p319
               replace q319 := eq_true q319
               have p324 : 0 ≤ (x7_1 : Int) := of_decide_eq_true (by assumption)
               have q324 : x7_1 < (l0.length : Int) := of_decide_eq_true (by assumption)
               obtain ⟨ad324, e324, hx324_0⟩ := Kd.at_string (Kd.R_reads' HO_0.out).2.2 x7_1 p324 q324
               obtain rfl : ad319 = ad324 := (by injection e324)
               replace p324 := eq_true p324
               replace q324 := eq_true q324
               have p332 : 0 ≤ (x7_1 : Int) := of_decide_eq_true (by assumption)
               have q332 : x7_1 < (l0.length : Int) := of_decide_eq_true (by assumption)
               obtain ⟨ad332, e332, hx332_0⟩ := Kd.at_string (Kd.R_reads' HO_0.out).2.2 x7_1 p332 q332
               obtain rfl : ad319 = ad332 := (by injection e332)
               replace p332 := eq_true p332
               replace q332 := eq_true q332
               go_wp2_with (first | ((with_reducible refine gate_builtin (b := .append) (xs := #[.tmp 35, .tmp 40]) rfl ?_); at_builtin; refine Kd.R_append Kd.string (w0 := w0) w0.heap.size rfl (.tmp 35) (.tmp 40) 38 9 (.string ⟨#[]⟩) 16 rfl Tryz.underlying38 info9 rfl (by decide) (by omega) u5 x5_1 (rdOf ByteArray.empty l0 x7_1) [.string (rdOf ByteArray.empty l0 x7_1)] (fun k_ => (P0_ k_ ∨ w.heap.size ≤ k_) ∧ some k_ ≠ (.slice (some ad319) l0.length co18 : Value).ownBlock) (fun _ => False) rfl rfl ?aP (fun _ hk => hk.elim) ?aF ?aO ?aB ?aS ?aL ?_; (case aP => exact rfl); (case aB => exact HB.out); (case aF => exact (fun k_ hk => ⟨(.inr (Nat.le_trans (by exact HK.out.1) hk)), Kd.fresh' (Kd.R_lt HO_0.out) k_ hk⟩)); (case aO => exact HO_5.out); (case aS => exact (below_size HB.out)); (case aL => have := LMc17.out; omega); intro v334 w19 ho hb hg hat; rw [← Ny333.out] at ho; have n0_ := Aside0.mk (Kd.R_after (ok := (fun k_ => (P0_ k_ ∨ w.heap.size ≤ k_))) HO_0.out hg hat); have n1_ := Aside0.mk hb; have n2_ := Aside0.mk (Kept.of_grown (S := (fun k_ => P0_ k_)) hg HK.out (fun k_ e_ => (HO_5.out.1 k_ e_).1)); have n3_ := Aside0.mk ho; clear HO_0 HB; clear HK HO_5; have HO_0 := n0_; have HB := n1_; have HK := n2_; have HO335 := n3_; clear n0_ n1_ n2_ n3_; clear ho hb hg hat))
               go_roundg k1
               case measure => have := HK1.out; omega
               case rel => exact ⟨(y333), (false), (wrap64 (x7_1 + 1)), rfl, rfl, H', ⟨by have := HK1.out; omega⟩, ⟨HO_0.out⟩, ⟨HO335.out⟩, ⟨HK.out⟩, ⟨HB.out⟩⟩
             · rw [if_neg c17] at H
               exact absurd H (by simp)
     · rw [if_neg c4] at H
       exact absurd H (by simp)
   · rw [if_neg c3] at H
     have c3b0 : decide (x7_1 < (l0.length : Int)) = false := decide_eq_false c3
     clear c3
     by_cases c20 : x6_1 = true
     · subst c20
       have H1 : (some x5_1) = some r := by rw [if_pos rfl] at H; exact H
       clear H
       have H := H1
       clear H1
       obtain rfl := Option.some.inj H
       obtain ⟨Ao21, co21, eo21⟩ := Kd.R_slice HO_0.out
       subst eo21
       go_wp2
       go_ret
       exact ⟨_, rfl, by (with_reducible repeat (first | apply Kd.R_alloc  | apply Kd.R_drewN  | apply Kd.R_drew)); exact Kd.R_mono HO_5.out (fun _ hk => hk.1), by (with_reducible exact HB.out), by (with_reducible exact HK.out)⟩
     · replace c20 := Bool.eq_false_iff.mpr c20
       subst c20
       have H1 : (if x5_1.length < 8796093022208 then (some (x5_1 ++ [a1])) else (none)) = some r := by rw [if_neg (show ¬ (false = true) by decide)] at H; exact H
       clear H
       have H := H1
       clear H1
       by_cases c22 : x5_1.length < 8796093022208
       · rw [if_pos c22] at H
         have LMc22 := Aside0.mk c22
         clear c22
         obtain ⟨y316, hy316⟩ : ∃ y_ : List ByteArray, y_ = (x5_1 ++ [a1]) := ⟨_, rfl⟩
         replace H : (some y316) = some r := by (rw [hy316]; with_reducible exact H)
         have Ny316 := Aside0.mk hy316
         clear hy316
         obtain rfl := Option.some.inj H
         obtain ⟨Ao23, co23, eo23⟩ := Kd.R_slice HO_0.out
         subst eo23
         go_wp2_with (first | ((with_reducible refine gate_builtin (b := .append) (xs := #[.tmp 44, .tmp 46]) rfl ?_); at_builtin; refine Kd.R_append Kd.string (w0 := w0) w0.heap.size rfl (.tmp 44) (.tmp 46) 38 9 (.string ⟨#[]⟩) 16 rfl Tryz.underlying38 info9 rfl (by decide) (by omega) u5 x5_1 a1 [.string a1] (fun k_ => (P0_ k_ ∨ w.heap.size ≤ k_) ∧ some k_ ≠ (.slice Ao23 l0.length co23 : Value).ownBlock) (fun _ => False) rfl rfl ?aP (fun _ hk => hk.elim) ?aF ?aO ?aB ?aS ?aL ?_; (case aP => exact rfl); (case aB => exact HB.out); (case aF => exact (fun k_ hk => ⟨(.inr (Nat.le_trans (by exact HK.out.1) hk)), Kd.fresh' (Kd.R_lt HO_0.out) k_ hk⟩)); (case aO => exact HO_5.out); (case aS => exact (below_size HB.out)); (case aL => have := LMc22.out; omega); intro v317 w24 ho hb hg hat; rw [← Ny316.out] at ho; have n0_ := Aside0.mk (Kd.R_after (ok := (fun k_ => (P0_ k_ ∨ w.heap.size ≤ k_))) HO_0.out hg hat); have n1_ := Aside0.mk hb; have n2_ := Aside0.mk (Kept.of_grown (S := (fun k_ => P0_ k_)) hg HK.out (fun k_ e_ => (HO_5.out.1 k_ e_).1)); have n3_ := Aside0.mk ho; clear HO_0 HB; clear HK HO_5; have HO_0 := n0_; have HB := n1_; have HK := n2_; have HO318 := n3_; clear n0_ n1_ n2_ n3_; clear ho hb hg hat))
         go_ret
         exact ⟨_, rfl, by (with_reducible repeat (first | apply Kd.R_alloc  | apply Kd.R_drewN  | apply Kd.R_drew)); exact Kd.R_mono HO318.out (fun _ hk => hk.1), by (with_reducible exact HB.out), by (with_reducible exact HK.out)⟩
       · rw [if_neg c22] at H
         exact absurd H (by simp)
end Go.Proofs.YtmimipgmhgalaaaGreatDoor.PAll
end
section
namespace Go.Proofs.YtmimipgmhgalaaaGreatDoor.PAll
open Go.RowKit Go.Proofs.YtmimipgmhgalaaaGreatDoorW.PrintWords Go.Proofs.YtmimipgmhgalaaaGreatDoorW.PrintLast Go.Proofs.YtmimipgmhgalaaaGreatDoorW.PrintMore
attribute [local go_sem] max2_int min2_int max_two min_two max_three min_three max_four min_four
set_option linter.unusedVariables false
set_option linter.unusedSimpArgs false
mutual
def wicketref03_Scopes.l0 : Nat → ByteArray → List ByteArray → Int → Int → Option (List ByteArray × Int)
 | 0, _, _, _, _ => none
 | k + 1, x0, x4, x5, x6 => if x6 ≤ (x0.size : Int) then (if x6 < (x0.size : Int) then (if 0 ≤ x6 then (wicketref03_Scopes.j1 k x0 x4 x5 x6 ((bt x0 x6) != 32)) else (none)) else (wicketref03_Scopes.j1 k x0 x4 x5 x6 false)) else (if (x4.length : Int) > 32 then (some (([] : List ByteArray), 32)) else (some (x4, 0)))
def wicketref03_Scopes.j1 : Nat → ByteArray → List ByteArray → Int → Int → Bool → Option (List ByteArray × Int)
 | 0, _, _, _, _, _ => none
 | k + 1, x0, x4, x5, x6, x27 => if x27 = true then (if 0 ≤ x6 then (if x6 < (x0.size : Int) then ((wicketref03_Letter.f (bt x0 x6)).bind fun t336 => (if t336 = true then (wicketref03_Scopes.l0 k x0 x4 x5 (wrap64 (x6 + 1))) else (some (([] : List ByteArray), 33)))) else (none)) else (none)) else (if x6 = x5 then (some (([] : List ByteArray), 33)) else (if 0 ≤ x5 then (if x5 ≤ x6 then (if x6 ≤ (x0.size : Int) then ((wicketref03_put.f k x4 (x0.extract (x5 : Int).toNat (x6 : Int).toNat)).bind fun t337 => (wicketref03_Scopes.l0 k x0 t337 (wrap64 (x6 + 1)) (wrap64 (x6 + 1)))) else (none)) else (none)) else (none)))
end
def wicketref03_Scopes.f (k : Nat) (a0 : ByteArray) : Option (List ByteArray × Int) := if (a0.size : Int) > 256 then (some (([] : List ByteArray), 1)) else (if a0.toList = ([] : List UInt8) then (some (([] : List ByteArray), 0)) else (wicketref03_Scopes.l0 k a0 ([] : List ByteArray) 0 0))
set_option maxHeartbeats 8000000 in
set_option maxRecDepth 100000 in
theorem wicketref03_Scopes.calls (k : Nat) (a0 : ByteArray) (r1 : List ByteArray) (r2 : Int) (w : World) (h : wicketref03_Scopes.f k a0 = some (r1, r2)) :
 Calls Tryz.prog 43 #[.string a0] w fun e w' => ∃ v0_ : Value, e = .returned (.tuple #[v0_, .int .i64 r2]) ∧ Kd.R Kd.string 9 w' w.heap.size (fun _ => True) v0_ r1 ∧ Below w.heap.size w w' := by
 have HB := Aside0.mk (Below.refl w.heap.size w)
 have H : (if (a0.size : Int) > 256 then (some (([] : List ByteArray), 1)) else (if a0.toList = ([] : List UInt8) then (some (([] : List ByteArray), 0)) else (wicketref03_Scopes.l0 k a0 ([] : List ByteArray) 0 0))) = some (r1, r2) := h
 clear h
 by_cases c2 : (a0.size : Int) > 256
 · rw [if_pos c2] at H
   have c2b0 : decide (256 < (a0.size : Int)) = true := decide_eq_true c2
   have c2b1 : decide (256 < a0.size) = true := decide_eq_true (by omega)
   clear c2
   simp only [Option.some.injEq, Prod.mk.injEq] at H
   obtain ⟨rfl, rfl⟩ := H
   go_enter Tryz.func43, Tryz.ntmps43
   go_wp2
   go_ret2
   exact ⟨_, rfl, by (exact Kd.R_nil _ _ _ _ _), by (with_reducible exact HB.out)⟩
 · rw [if_neg c2] at H
   have c2b0 : decide (256 < (a0.size : Int)) = false := decide_eq_false c2
   have c2b1 : decide (256 < a0.size) = false := decide_eq_false (by omega)
   clear c2
   by_cases c3 : a0.toList = ([] : List UInt8)
   · rw [if_pos c3] at H
     have c3b0 : (a0.toList == ([] : List UInt8)) = true := beq_iff_eq.mpr c3
     have c3b1 : (a0.toList != ([] : List UInt8)) = false := bne_eq_false_iff_eq.mpr c3
     clear c3
     simp only [Option.some.injEq, Prod.mk.injEq] at H
     obtain ⟨rfl, rfl⟩ := H
     go_enter Tryz.func43, Tryz.ntmps43
     go_wp2
     go_ret2
     exact ⟨_, rfl, by (exact Kd.R_nil _ _ _ _ _), by (with_reducible exact HB.out)⟩
   · rw [if_neg c3] at H
     have c3b0 : (a0.toList == ([] : List UInt8)) = false := beq_eq_false_iff_ne.mpr c3
     have c3b1 : (a0.toList != ([] : List UInt8)) = true := bne_iff_ne.mpr c3
     have H' := Aside0.mk H
     clear H
     go_enter Tryz.func43, Tryz.ntmps43
     go_wp2
     go_loopg [4, 5, 6] k (fun kq v4 v5 v6 w' => ∃ (x4_1 : List ByteArray) (x5_1 : Int) (x6_1 : Int), v5 = .int .i64 x5_1 ∧ v6 = .int .i64 x6_1 ∧ Aside0 (wicketref03_Scopes.l0 kq a0 x4_1 x5_1 x6_1 = some (r1, r2)) ∧ Aside0 (kq ≤ k) ∧ Aside0 (Kd.R Kd.string 9 w' w.heap.size (fun _ => True) v4 x4_1) ∧ Aside0 (Below w.heap.size w w'))
     case atStart => exact ⟨(([] : List ByteArray)), (0), (0), rfl, rfl, H', ⟨Nat.le_refl _⟩, ⟨by (exact Kd.R_nil _ _ _ _ _)⟩, ⟨HB.out⟩⟩
     case round =>
      clear H' c2b0 c2b1 c3 c3b0 c3b1
      obtain ⟨x4_1, x5_1, x6_1, rfl, rfl, HA, HK1, HO_4, HB⟩ := hrel
      cases gk with
      | zero => exact absurd HA.out (by simp [wicketref03_Scopes.l0])
      | succ k1 =>
       have H := HA.out
       clear HA
       simp only [wicketref03_Scopes.l0] at H
       by_cases c4 : x6_1 ≤ (a0.size : Int)
       · rw [if_pos c4] at H
         have c4b0 : decide (x6_1 ≤ (a0.size : Int)) = true := decide_eq_true c4
         clear c4
         have HC5 := Aside0.mk H
         clear H
         go_upto_region 10 with (fail)
         go_cut [27] (fun v27 wc => ∃ (kq : Nat) (x27_4 : Bool), v27 = .bool x27_4 ∧ Aside0 (wicketref03_Scopes.j1 kq a0 x4_1 x5_1 x6_1 x27_4 = some (r1, r2)) ∧ Aside0 (kq ≤ k1) ∧ Aside0 (Kd.R Kd.string 9 wc w.heap.size (fun _ => True) u4 x4_1) ∧ Aside0 (Below w.heap.size w wc))
         case first =>
          have H := HC5.out
          clear HC5
          by_cases c6 : x6_1 < (a0.size : Int)
          · rw [if_pos c6] at H
            have c6b0 : decide (x6_1 < (a0.size : Int)) = true := decide_eq_true c6
            clear c6
            by_cases c7 : 0 ≤ x6_1
            · rw [if_pos c7] at H
              have c7b0 : decide (0 ≤ x6_1) = true := decide_eq_true c7
              clear c7
              have H' := Aside0.mk H
              clear H
              have p8 : 0 ≤ (x6_1 : Int) := of_decide_eq_true (by assumption)
              have q8 : x6_1 < (a0.size : Int) := of_decide_eq_true (by assumption)
              have hx8 := bt_at a0 x6_1
              replace p8 := eq_true p8
              replace q8 := eq_true q8
              go_wp2
              go_meet
              case rel => exact ⟨_, (((bt a0 x6_1) != 32)), rfl, H', ⟨by have := HK1.out; (omega)⟩, ⟨HO_4.out⟩, ⟨HB.out⟩⟩
            · rw [if_neg c7] at H
              exact absurd H (by simp)
          · rw [if_neg c6] at H
            have c6b0 : decide (x6_1 < (a0.size : Int)) = false := decide_eq_false c6
            clear c6
            have H' := Aside0.mk H
            clear H
            go_wp2
            go_meet
            case rel => exact ⟨_, (false), rfl, H', ⟨by have := HK1.out; (omega)⟩, ⟨HO_4.out⟩, ⟨HB.out⟩⟩
         case rest =>
          clear HC5 c4b0
          obtain ⟨kq, x27_4, rfl, HA, HJ4, HO_4, HB⟩ := hcut
          cases kq with
          | zero => exact absurd HA.out (by simp [wicketref03_Scopes.j1])
          | succ kj4 =>
           have H := HA.out
           clear HA
           simp only [wicketref03_Scopes.j1] at H
           by_cases c9 : x27_4 = true
           · subst c9
             have H1 : (if 0 ≤ x6_1 then (if x6_1 < (a0.size : Int) then ((wicketref03_Letter.f (bt a0 x6_1)).bind fun t336 => (if t336 = true then (wicketref03_Scopes.l0 kj4 a0 x4_1 x5_1 (wrap64 (x6_1 + 1))) else (some (([] : List ByteArray), 33)))) else (none)) else (none)) = some (r1, r2) := by rw [if_pos rfl] at H; exact H
             clear H
             have H := H1
             clear H1
             by_cases c10 : 0 ≤ x6_1
             · rw [if_pos c10] at H
               have c10b0 : decide (0 ≤ x6_1) = true := decide_eq_true c10
               clear c10
               by_cases c11 : x6_1 < (a0.size : Int)
               · rw [if_pos c11] at H
                 have c11b0 : decide (x6_1 < (a0.size : Int)) = true := decide_eq_true c11
                 clear c11
                 replace H := Option.bind_eq_some_iff.mp H
                 obtain ⟨t336, A130, H⟩ := H
                 replace H : (if t336 = true then (wicketref03_Scopes.l0 kj4 a0 x4_1 x5_1 (wrap64 (x6_1 + 1))) else (some (([] : List ByteArray), 33))) = some (r1, r2) := H
                 have A13 := Aside0.mk A130
                 clear A130
                 by_cases c14 : t336 = true
                 · subst c14
                   have H1 : (wicketref03_Scopes.l0 kj4 a0 x4_1 x5_1 (wrap64 (x6_1 + 1))) = some (r1, r2) := by rw [if_pos rfl] at H; exact H
                   clear H
                   have H := H1
                   clear H1
                   have H' := Aside0.mk H
                   clear H
                   have p12 : 0 ≤ (x6_1 : Int) := of_decide_eq_true (by assumption)
                   have q12 : x6_1 < (a0.size : Int) := of_decide_eq_true (by assumption)
                   have hx12 := bt_at a0 x6_1
                   replace p12 := eq_true p12
                   replace q12 := eq_true q12
                   go_wp2_with (first | ((with_reducible refine gate_callee (f := 74) rfl ?_); refine goesL_ (some 31) rfl rfl Tryz.func74 (by kernel_rfl) rfl #[.int .u8 (bt a0 x6_1)] rfl (by ((try simp only [List.map_toArray, List.map_cons, List.map_nil]); (rfl))) ?_; (with_reducible refine (wicketref03_Letter.calls (bt a0 x6_1) true _ A13.out).mono ?_); rintro e w' ⟨rfl, ⟨nd, rfl⟩⟩; refine ⟨_, rfl, ?_⟩))
                   go_roundg kj4
                   case measure => have := HK1.out; have := HJ4.out; omega
                   case rel => exact ⟨(x4_1), (x5_1), (wrap64 (x6_1 + 1)), rfl, rfl, H', ⟨by have := HK1.out; have := HJ4.out; omega⟩, ⟨by ((with_reducible repeat (apply Kd.R_drewN)); exact HO_4.out)⟩, ⟨by (repeat (with_reducible first | exact HB.out | apply pw_below_drewN))⟩⟩
                 · replace c14 := Bool.eq_false_iff.mpr c14
                   subst c14
                   have H1 : (some (([] : List ByteArray), 33)) = some (r1, r2) := by rw [if_neg (show ¬ (false = true) by decide)] at H; exact H
                   clear H
                   have H := H1
                   clear H1
                   simp only [Option.some.injEq, Prod.mk.injEq] at H
                   obtain ⟨rfl, rfl⟩ := H
                   have p12 : 0 ≤ (x6_1 : Int) := of_decide_eq_true (by assumption)
                   have q12 : x6_1 < (a0.size : Int) := of_decide_eq_true (by assumption)
                   have hx12 := bt_at a0 x6_1
                   replace p12 := eq_true p12
                   replace q12 := eq_true q12
                   go_wp2_with (first | ((with_reducible refine gate_callee (f := 74) rfl ?_); refine goesL_ (some 31) rfl rfl Tryz.func74 (by kernel_rfl) rfl #[.int .u8 (bt a0 x6_1)] rfl (by ((try simp only [List.map_toArray, List.map_cons, List.map_nil]); (rfl))) ?_; (with_reducible refine (wicketref03_Letter.calls (bt a0 x6_1) false _ A13.out).mono ?_); rintro e w' ⟨rfl, ⟨nd, rfl⟩⟩; refine ⟨_, rfl, ?_⟩))
                   go_ret2
                   exact ⟨_, rfl, by (exact Kd.R_nil _ _ _ _ _), by (repeat (with_reducible first | exact HB.out | apply pw_below_drewN))⟩
               · rw [if_neg c11] at H
                 exact absurd H (by simp)
             · rw [if_neg c10] at H
               exact absurd H (by simp)
           · replace c9 := Bool.eq_false_iff.mpr c9
             subst c9
             have H1 : (if x6_1 = x5_1 then (some (([] : List ByteArray), 33)) else (if 0 ≤ x5_1 then (if x5_1 ≤ x6_1 then (if x6_1 ≤ (a0.size : Int) then ((wicketref03_put.f kj4 x4_1 (a0.extract (x5_1 : Int).toNat (x6_1 : Int).toNat)).bind fun t337 => (wicketref03_Scopes.l0 kj4 a0 t337 (wrap64 (x6_1 + 1)) (wrap64 (x6_1 + 1)))) else (none)) else (none)) else (none))) = some (r1, r2) := by rw [if_neg (show ¬ (false = true) by decide)] at H; exact H
             clear H
             have H := H1
             clear H1
             by_cases c15 : x6_1 = x5_1
             · rw [if_pos c15] at H
               have c15b0 : (x6_1 == x5_1) = true := beq_iff_eq.mpr c15
               have c15b1 : (x6_1 != x5_1) = false := bne_eq_false_iff_eq.mpr c15
               clear c15
               simp only [Option.some.injEq, Prod.mk.injEq] at H
               obtain ⟨rfl, rfl⟩ := H
               go_wp2
               go_ret2
               exact ⟨_, rfl, by (exact Kd.R_nil _ _ _ _ _), by (with_reducible exact HB.out)⟩
             · rw [if_neg c15] at H
               have c15b0 : (x6_1 == x5_1) = false := beq_eq_false_iff_ne.mpr c15
               have c15b1 : (x6_1 != x5_1) = true := bne_iff_ne.mpr c15
               by_cases c16 : 0 ≤ x5_1
               · rw [if_pos c16] at H
                 have c16b0 := eq_true c16
                 have c16b1 : decide (0 ≤ x5_1) = true := decide_eq_true c16
                 clear c16
                 by_cases c17 : x5_1 ≤ x6_1
                 · rw [if_pos c17] at H
                   have c17b0 := eq_true c17
                   have c17b1 : decide (x5_1 ≤ x6_1) = true := decide_eq_true c17
                   clear c17
                   by_cases c18 : x6_1 ≤ (a0.size : Int)
                   · rw [if_pos c18] at H
                     have c18b0 := eq_true c18
                     have c18b1 : decide (x6_1 ≤ (a0.size : Int)) = true := decide_eq_true c18
                     clear c18
                     replace H := Option.bind_eq_some_iff.mp H
                     obtain ⟨t337, A190, H⟩ := H
                     replace H : (wicketref03_Scopes.l0 kj4 a0 t337 (wrap64 (x6_1 + 1)) (wrap64 (x6_1 + 1))) = some (r1, r2) := H
                     have A19 := Aside0.mk A190
                     clear A190
                     have H' := Aside0.mk H
                     clear H
                     obtain ⟨Ao20, co20, eo20⟩ := Kd.R_slice HO_4.out
                     subst eo20
                     go_wp2_with (first | ((with_reducible refine gate_callee (f := 75) rfl ?_); refine goesL_ (some 41) rfl rfl Tryz.func75 (by kernel_rfl) rfl #[.slice Ao20 x4_1.length co20, .string (a0.extract (x5_1 : Int).toNat (x6_1 : Int).toNat)] rfl (by ((try simp only [List.map_toArray, List.map_cons, List.map_nil]); (rfl))) ?_; (with_reducible refine (wicketref03_put.calls kj4 (fun k_ => some k_ = (.slice Ao20 x4_1.length co20 : Value).ownBlock) (.slice Ao20 x4_1.length co20) x4_1 (a0.extract (x5_1 : Int).toNat (x6_1 : Int).toNat) t337 w _ ?side1 ?side2 A19.out).mono ?_); (case side1 => repeat ((with_reducible (exact HB.out)))); (case side2 => exact Kd.R_tight rfl HO_4.out); rintro e w21 ⟨v338, rfl, ho0, hb, hkp⟩; refine ⟨_, rfl, ?_⟩; have n0_ := Aside0.mk (Kd.R_mono (ok' := fun k_ => True) ho0 (fun k_ hk_ => trivial)); have n1_ := Aside0.mk hb; clear HB HO_4; have HO339 := n0_; have HB := n1_; clear n0_ n1_; clear hb hkp ho0))
                     go_roundg kj4
                     case measure => have := HK1.out; have := HJ4.out; omega
                     case rel => exact ⟨(t337), (wrap64 (x6_1 + 1)), (wrap64 (x6_1 + 1)), rfl, rfl, H', ⟨by have := HK1.out; have := HJ4.out; omega⟩, ⟨HO339.out⟩, ⟨HB.out⟩⟩
                   · rw [if_neg c18] at H
                     exact absurd H (by simp)
                 · rw [if_neg c17] at H
                   exact absurd H (by simp)
               · rw [if_neg c16] at H
                 exact absurd H (by simp)
       · rw [if_neg c4] at H
         have c4b0 : decide (x6_1 ≤ (a0.size : Int)) = false := decide_eq_false c4
         clear c4
         by_cases c22 : (x4_1.length : Int) > 32
         · rw [if_pos c22] at H
           have c22b0 : decide (32 < (x4_1.length : Int)) = true := decide_eq_true c22
           have c22b1 : decide (32 < x4_1.length) = true := decide_eq_true (by omega)
           clear c22
           simp only [Option.some.injEq, Prod.mk.injEq] at H
           obtain ⟨rfl, rfl⟩ := H
           obtain ⟨Ao23, co23, eo23⟩ := Kd.R_slice HO_4.out
           subst eo23
           go_wp2
           go_ret2
           exact ⟨_, rfl, by (exact Kd.R_nil _ _ _ _ _), by (with_reducible exact HB.out)⟩
         · rw [if_neg c22] at H
           have c22b0 : decide (32 < (x4_1.length : Int)) = false := decide_eq_false c22
           have c22b1 : decide (32 < x4_1.length) = false := decide_eq_false (by omega)
           clear c22
           simp only [Option.some.injEq, Prod.mk.injEq] at H
           obtain ⟨rfl, rfl⟩ := H
           obtain ⟨Ao24, co24, eo24⟩ := Kd.R_slice HO_4.out
           subst eo24
           go_wp2
           go_ret2
           exact ⟨_, rfl, by ((with_reducible repeat (first | apply Kd.R_alloc  | apply Kd.R_drewN  | apply Kd.R_drew)); exact HO_4.out), by (with_reducible exact HB.out)⟩
def wicketref11_Joined.l0 : Nat → List ByteArray → ByteArray → Int → Option (ByteArray)
 | 0, _, _, _ => none
 | k + 1, x0, x3, x4 => if x4 < (x0.length : Int) then (if x4 > 0 then (if x3.size + 1 ≤ 9223372036854775807 then (if 0 ≤ x4 then (if (x3 ++ (⟨#[32]⟩ : ByteArray)).size + (rdOf ByteArray.empty x0 x4).size ≤ 9223372036854775807 then (wicketref11_Joined.l0 k x0 ((x3 ++ (⟨#[32]⟩ : ByteArray)) ++ (rdOf ByteArray.empty x0 x4)) (wrap64 (x4 + 1))) else (none)) else (none)) else (none)) else (if 0 ≤ x4 then (if x3.size + (rdOf ByteArray.empty x0 x4).size ≤ 9223372036854775807 then (wicketref11_Joined.l0 k x0 (x3 ++ (rdOf ByteArray.empty x0 x4)) (wrap64 (x4 + 1))) else (none)) else (none))) else (some x3)
def wicketref11_Joined.f (k : Nat) (l0 : List ByteArray) : Option (ByteArray) := wicketref11_Joined.l0 k l0 (⟨#[]⟩ : ByteArray) 0
set_option maxHeartbeats 8000000 in
set_option maxRecDepth 100000 in
theorem wicketref11_Joined.calls (k : Nat) (A0 : Option Addr) (c0 : Nat) (l0 : List ByteArray) (r : ByteArray) (w : World) (hr0 : Kd.C Kd.string w A0 l0.length l0) (hc0 : l0.length ≤ c0) (h : wicketref11_Joined.f k l0 = some r) :
 Calls Tryz.prog 42 #[.slice A0 l0.length c0] w fun e w' => e = .returned (.string r) ∧ Drawn0 w w' := by
 have HR0 := Aside0.mk hr0
 have HC0 := Aside0.mk hc0
 clear hr0 hc0
 have H : (wicketref11_Joined.l0 k l0 (⟨#[]⟩ : ByteArray) 0) = some r := h
 clear h
 have H' := Aside0.mk H
 clear H
 go_enter Tryz.func42, Tryz.ntmps42
 go_wp2
 go_loopg [3, 4] k (fun kq v3 v4 w' => ∃ (x3_1 : ByteArray) (x4_1 : Int), v3 = .string x3_1 ∧ v4 = .int .i64 x4_1 ∧ Aside0 (wicketref11_Joined.l0 kq l0 x3_1 x4_1 = some r) ∧ Aside0 (kq ≤ k) ∧ Drawn0 w w')
 case atStart => exact ⟨((⟨#[]⟩ : ByteArray)), (0), rfl, rfl, H', ⟨Nat.le_refl _⟩, by repeat (exact Drawn0.refl _)⟩
 case round =>
  clear H'
  obtain ⟨x3_1, x4_1, rfl, rfl, HA, HK1, ⟨m1, rfl⟩⟩ := hrel
  cases gk with
  | zero => exact absurd HA.out (by simp [wicketref11_Joined.l0])
  | succ k1 =>
   have H := HA.out
   clear HA
   simp only [wicketref11_Joined.l0] at H
   by_cases c2 : x4_1 < (l0.length : Int)
   · rw [if_pos c2] at H
     have c2b0 : decide (x4_1 < (l0.length : Int)) = true := decide_eq_true c2
     clear c2
     by_cases c3 : x4_1 > 0
     · rw [if_pos c3] at H
       have c3b0 : decide (0 < x4_1) = true := decide_eq_true c3
       clear c3
       by_cases c4 : x3_1.size + 1 ≤ 9223372036854775807
       · rw [if_pos c4] at H
         have c4b0 := eq_true c4
         have c4b1 : decide (x3_1.size + 1 ≤ 9223372036854775807) = true := decide_eq_true c4
         try have c4b2 : (9223372036854775807 < x3_1.size + 1) = False := eq_false (Nat.not_lt.2 c4)
         by_cases c5 : 0 ≤ x4_1
         · rw [if_pos c5] at H
           have c5b0 : decide (0 ≤ x4_1) = true := decide_eq_true c5
           clear c5
           by_cases c6 : (x3_1 ++ (⟨#[32]⟩ : ByteArray)).size + (rdOf ByteArray.empty l0 x4_1).size ≤ 9223372036854775807
           · rw [if_pos c6] at H
             have c6b0 := eq_true c6
             have c6b1 : decide ((x3_1 ++ (⟨#[32]⟩ : ByteArray)).size + (rdOf ByteArray.empty l0 x4_1).size ≤ 9223372036854775807) = true := decide_eq_true c6
             try have c6b2 : (9223372036854775807 < (x3_1 ++ (⟨#[32]⟩ : ByteArray)).size + (rdOf ByteArray.empty l0 x4_1).size) = False := eq_false (Nat.not_lt.2 c6)
             try have c6b3 : (9223372036854775807 < x3_1.size + 1 + (rdOf ByteArray.empty l0 x4_1).size) = False := eq_false (Nat.not_lt.2 (by have h_ := c6; simp only [ByteArray.size_append'] at h_; exact h_))
             have H' := Aside0.mk H
             clear H
             have p340 : 0 ≤ (x4_1 : Int) := of_decide_eq_true (by assumption)
             have q340 : x4_1 < (l0.length : Int) := of_decide_eq_true (by assumption)
             obtain ⟨ad340, e340, hx340_0⟩ := Kd.at_string HR0.out x4_1 p340 q340
             cases e340
             replace p340 := eq_true p340
             replace q340 := eq_true q340
             go_wp2
             go_roundg k1
             case measure => have := HK1.out; omega
             case rel => exact ⟨((x3_1 ++ (⟨#[32]⟩ : ByteArray)) ++ (rdOf ByteArray.empty l0 x4_1)), (wrap64 (x4_1 + 1)), rfl, rfl, H', ⟨by have := HK1.out; omega⟩, by repeat (first | exact Drawn0.refl _ | apply Drawn0.step)⟩
           · rw [if_neg c6] at H
             exact absurd H (by simp)
         · rw [if_neg c5] at H
           exact absurd H (by simp)
       · rw [if_neg c4] at H
         exact absurd H (by simp)
     · rw [if_neg c3] at H
       have c3b0 : decide (0 < x4_1) = false := decide_eq_false c3
       clear c3
       by_cases c7 : 0 ≤ x4_1
       · rw [if_pos c7] at H
         have c7b0 : decide (0 ≤ x4_1) = true := decide_eq_true c7
         clear c7
         by_cases c8 : x3_1.size + (rdOf ByteArray.empty l0 x4_1).size ≤ 9223372036854775807
         · rw [if_pos c8] at H
           have c8b0 := eq_true c8
           have c8b1 : decide (x3_1.size + (rdOf ByteArray.empty l0 x4_1).size ≤ 9223372036854775807) = true := decide_eq_true c8
           try have c8b2 : (9223372036854775807 < x3_1.size + (rdOf ByteArray.empty l0 x4_1).size) = False := eq_false (Nat.not_lt.2 c8)
           have H' := Aside0.mk H
           clear H
           have p341 : 0 ≤ (x4_1 : Int) := of_decide_eq_true (by assumption)
           have q341 : x4_1 < (l0.length : Int) := of_decide_eq_true (by assumption)
           obtain ⟨ad341, e341, hx341_0⟩ := Kd.at_string HR0.out x4_1 p341 q341
           cases e341
           replace p341 := eq_true p341
           replace q341 := eq_true q341
           go_wp2
           go_roundg k1
           case measure => have := HK1.out; omega
           case rel => exact ⟨(x3_1 ++ (rdOf ByteArray.empty l0 x4_1)), (wrap64 (x4_1 + 1)), rfl, rfl, H', ⟨by have := HK1.out; omega⟩, by repeat (first | exact Drawn0.refl _ | apply Drawn0.step)⟩
         · rw [if_neg c8] at H
           exact absurd H (by simp)
       · rw [if_neg c7] at H
         exact absurd H (by simp)
   · rw [if_neg c2] at H
     have c2b0 : decide (x4_1 < (l0.length : Int)) = false := decide_eq_false c2
     clear c2
     obtain rfl := Option.some.inj H
     go_wp2
     go_ret
     exact ⟨by (rfl), by repeat (first | exact Drawn0.refl _ | apply Drawn0.step)⟩
end Go.Proofs.YtmimipgmhgalaaaGreatDoor.PAll
end
section
namespace Go.Proofs.YtmimipgmhgalaaaGreatDoor.PAll
open Go.RowKit Go.Proofs.YtmimipgmhgalaaaGreatDoorW.PrintWords Go.Proofs.YtmimipgmhgalaaaGreatDoorW.PrintLast Go.Proofs.YtmimipgmhgalaaaGreatDoorW.PrintMore
attribute [local go_sem] max2_int min2_int max_two min_two max_three min_three max_four min_four
set_option linter.unusedVariables false
set_option linter.unusedSimpArgs false
def wicketref11_texts.l0 : Nat → List ByteArray → List ByteArray → Int → Option (Bool)
 | 0, _, _, _ => none
 | k + 1, x0, x1, x5 => if x5 < (x0.length : Int) then (if 0 ≤ x5 then (if x5 < (x1.length : Int) then (if (rdOf ByteArray.empty x0 x5).toList = (rdOf ByteArray.empty x1 x5).toList then (wicketref11_texts.l0 k x0 x1 (wrap64 (x5 + 1))) else (some false)) else (none)) else (none)) else (some true)
def wicketref11_texts.f (k : Nat) (l0 : List ByteArray) (l1 : List ByteArray) : Option (Bool) := if (l0.length : Int) = (l1.length : Int) then (wicketref11_texts.l0 k l0 l1 0) else (some false)
set_option maxHeartbeats 8000000 in
set_option maxRecDepth 100000 in
theorem wicketref11_texts.calls (k : Nat) (A0 : Option Addr) (c0 : Nat) (l0 : List ByteArray) (A1 : Option Addr) (c1 : Nat) (l1 : List ByteArray) (r : Bool) (w : World) (hr0 : Kd.C Kd.string w A0 l0.length l0) (hc0 : l0.length ≤ c0) (hr1 : Kd.C Kd.string w A1 l1.length l1) (hc1 : l1.length ≤ c1) (h : wicketref11_texts.f k l0 l1 = some r) :
 Calls Tryz.prog 57 #[.slice A0 l0.length c0, .slice A1 l1.length c1] w fun e w' => e = .returned (.bool r) ∧ Drawn0 w w' := by
 have HR0 := Aside0.mk hr0
 have HC0 := Aside0.mk hc0
 clear hr0 hc0
 have HR1 := Aside0.mk hr1
 have HC1 := Aside0.mk hc1
 clear hr1 hc1
 have H : (if (l0.length : Int) = (l1.length : Int) then (wicketref11_texts.l0 k l0 l1 0) else (some false)) = some r := h
 clear h
 by_cases c3 : (l0.length : Int) = (l1.length : Int)
 · rw [if_pos c3] at H
   have c3b0 : ((l0.length : Int) == (l1.length : Int)) = true := beq_iff_eq.mpr c3
   have c3b1 : ((l0.length : Int) != (l1.length : Int)) = false := bne_eq_false_iff_eq.mpr c3
   have c3b2 : (l0.length == l1.length) = true := by (simp at c3 ⊢; omega)
   clear c3
   have H' := Aside0.mk H
   clear H
   go_enter Tryz.func57, Tryz.ntmps57
   go_wp2
   repeat (go_quiet (fail); try go_wp2)
   go_loopg [5] k (fun kq v5 w' => ∃ (x5_1 : Int), v5 = .int .i64 x5_1 ∧ Aside0 (wicketref11_texts.l0 kq l0 l1 x5_1 = some r) ∧ Aside0 (kq ≤ k) ∧ Drawn0 w w')
   case atStart => exact ⟨(0), rfl, H', ⟨Nat.le_refl _⟩, by repeat (exact Drawn0.refl _)⟩
   case round =>
    clear H' c3b0 c3b1 c3b2
    obtain ⟨x5_1, rfl, HA, HK1, ⟨m1, rfl⟩⟩ := hrel
    cases gk with
    | zero => exact absurd HA.out (by simp [wicketref11_texts.l0])
    | succ k1 =>
     have H := HA.out
     clear HA
     simp only [wicketref11_texts.l0] at H
     by_cases c4 : x5_1 < (l0.length : Int)
     · rw [if_pos c4] at H
       have c4b0 : decide (x5_1 < (l0.length : Int)) = true := decide_eq_true c4
       clear c4
       by_cases c5 : 0 ≤ x5_1
       · rw [if_pos c5] at H
         have c5b0 : decide (0 ≤ x5_1) = true := decide_eq_true c5
         clear c5
         by_cases c6 : x5_1 < (l1.length : Int)
         · rw [if_pos c6] at H
           have c6b0 : decide (x5_1 < (l1.length : Int)) = true := decide_eq_true c6
           clear c6
           by_cases c7 : (rdOf ByteArray.empty l0 x5_1).toList = (rdOf ByteArray.empty l1 x5_1).toList
           · rw [if_pos c7] at H
             have c7b0 : ((rdOf ByteArray.empty l0 x5_1).toList == (rdOf ByteArray.empty l1 x5_1).toList) = true := beq_iff_eq.mpr c7
             have c7b1 : ((rdOf ByteArray.empty l0 x5_1).toList != (rdOf ByteArray.empty l1 x5_1).toList) = false := bne_eq_false_iff_eq.mpr c7
             clear c7
             have H' := Aside0.mk H
             clear H
             have p342 : 0 ≤ (x5_1 : Int) := of_decide_eq_true (by assumption)
             have q342 : x5_1 < (l0.length : Int) := of_decide_eq_true (by assumption)
             obtain ⟨ad342, e342, hx342_0⟩ := Kd.at_string HR0.out x5_1 p342 q342
             cases e342
             replace p342 := eq_true p342
             replace q342 := eq_true q342
             have p343 : 0 ≤ (x5_1 : Int) := of_decide_eq_true (by assumption)
             have q343 : x5_1 < (l1.length : Int) := of_decide_eq_true (by assumption)
             obtain ⟨ad343, e343, hx343_0⟩ := Kd.at_string HR1.out x5_1 p343 q343
             cases e343
             replace p343 := eq_true p343
             replace q343 := eq_true q343
             go_wp2
             repeat (go_quiet (fail); try go_wp2)
             go_roundg k1
             case measure => have := HK1.out; omega
             case rel => exact ⟨(wrap64 (x5_1 + 1)), rfl, H', ⟨by have := HK1.out; omega⟩, by repeat (first | exact Drawn0.refl _ | apply Drawn0.step)⟩
           · rw [if_neg c7] at H
             have c7b0 : ((rdOf ByteArray.empty l0 x5_1).toList == (rdOf ByteArray.empty l1 x5_1).toList) = false := beq_eq_false_iff_ne.mpr c7
             have c7b1 : ((rdOf ByteArray.empty l0 x5_1).toList != (rdOf ByteArray.empty l1 x5_1).toList) = true := bne_iff_ne.mpr c7
             obtain rfl := Option.some.inj H
             have p342 : 0 ≤ (x5_1 : Int) := of_decide_eq_true (by assumption)
             have q342 : x5_1 < (l0.length : Int) := of_decide_eq_true (by assumption)
             obtain ⟨ad342, e342, hx342_0⟩ := Kd.at_string HR0.out x5_1 p342 q342
             cases e342
             replace p342 := eq_true p342
             replace q342 := eq_true q342
             have p343 : 0 ≤ (x5_1 : Int) := of_decide_eq_true (by assumption)
             have q343 : x5_1 < (l1.length : Int) := of_decide_eq_true (by assumption)
             obtain ⟨ad343, e343, hx343_0⟩ := Kd.at_string HR1.out x5_1 p343 q343
             cases e343
             replace p343 := eq_true p343
             replace q343 := eq_true q343
             go_wp2
             repeat (go_quiet (fail); try go_wp2)
             go_ret
             exact ⟨by (rfl), by repeat (first | exact Drawn0.refl _ | apply Drawn0.step)⟩
         · rw [if_neg c6] at H
           exact absurd H (by simp)
       · rw [if_neg c5] at H
         exact absurd H (by simp)
     · rw [if_neg c4] at H
       have c4b0 : decide (x5_1 < (l0.length : Int)) = false := decide_eq_false c4
       clear c4
       obtain rfl := Option.some.inj H
       go_wp2
       repeat (go_quiet (fail); try go_wp2)
       go_ret
       exact ⟨by (rfl), by repeat (first | exact Drawn0.refl _ | apply Drawn0.step)⟩
 · rw [if_neg c3] at H
   have c3b0 : ((l0.length : Int) == (l1.length : Int)) = false := beq_eq_false_iff_ne.mpr c3
   have c3b1 : ((l0.length : Int) != (l1.length : Int)) = true := bne_iff_ne.mpr c3
   have c3b2 : (l0.length == l1.length) = false := by (simp at c3 ⊢; omega)
   obtain rfl := Option.some.inj H
   go_enter Tryz.func57, Tryz.ntmps57
   go_wp2
   repeat (go_quiet (fail); try go_wp2)
   go_ret
   exact ⟨by (rfl), by repeat (exact Drawn0.refl _)⟩
def wicketref11_bytes.l0 : Nat → ByteArray → Int → Int → Int → Int → Int → Option (Bool)
 | 0, _, _, _, _, _, _ => none
 | k + 1, x0, x1, x2, x3, x4, x11 => if x11 < (x0.size : Int) then (if 0 ≤ x11 then (if (bt x0 x11) < x1 then (some false) else (if (bt x0 x11) > x2 then (some false) else (wicketref11_bytes.l0 k x0 x1 x2 x3 x4 (wrap64 (x11 + 1))))) else (none)) else (if (x0.size : Int) ≥ x3 then (some (decide ((x0.size : Int) ≤ x4))) else (some false))
def wicketref11_bytes.f (k : Nat) (a0 : ByteArray) (a1 : Int) (a2 : Int) (a3 : Int) (a4 : Int) : Option (Bool) := wicketref11_bytes.l0 k a0 a1 a2 a3 a4 0
set_option maxHeartbeats 8000000 in
set_option maxRecDepth 100000 in
theorem wicketref11_bytes.calls (k : Nat) (a0 : ByteArray) (a1 : Int) (a2 : Int) (a3 : Int) (a4 : Int) (r : Bool) (w : World) (h : wicketref11_bytes.f k a0 a1 a2 a3 a4 = some r) :
 Calls Tryz.prog 58 #[.string a0, .int .u8 a1, .int .u8 a2, .int .i64 a3, .int .i64 a4] w fun e w' => e = .returned (.bool r) ∧ Drawn0 w w' := by
 have H : (wicketref11_bytes.l0 k a0 a1 a2 a3 a4 0) = some r := h
 clear h
 have H' := Aside0.mk H
 clear H
 go_enter Tryz.func58, Tryz.ntmps58
 go_wp2
 go_loopg [11] k (fun kq v11 w' => ∃ (x11_1 : Int), v11 = .int .i64 x11_1 ∧ Aside0 (wicketref11_bytes.l0 kq a0 a1 a2 a3 a4 x11_1 = some r) ∧ Aside0 (kq ≤ k) ∧ Drawn0 w w')
 case atStart => exact ⟨(0), rfl, H', ⟨Nat.le_refl _⟩, by repeat (exact Drawn0.refl _)⟩
 case round =>
  clear H'
  obtain ⟨x11_1, rfl, HA, HK1, ⟨m1, rfl⟩⟩ := hrel
  cases gk with
  | zero => exact absurd HA.out (by simp [wicketref11_bytes.l0])
  | succ k1 =>
   have H := HA.out
   clear HA
   simp only [wicketref11_bytes.l0] at H
   by_cases c6 : x11_1 < (a0.size : Int)
   · rw [if_pos c6] at H
     have c6b0 : decide (x11_1 < (a0.size : Int)) = true := decide_eq_true c6
     clear c6
     by_cases c7 : 0 ≤ x11_1
     · rw [if_pos c7] at H
       have c7b0 : decide (0 ≤ x11_1) = true := decide_eq_true c7
       clear c7
       by_cases c9 : (bt a0 x11_1) < a1
       · rw [if_pos c9] at H
         have c9b0 : decide ((bt a0 x11_1) < a1) = true := decide_eq_true c9
         clear c9
         obtain rfl := Option.some.inj H
         have p8 : 0 ≤ (x11_1 : Int) := of_decide_eq_true (by assumption)
         have q8 : x11_1 < (a0.size : Int) := of_decide_eq_true (by assumption)
         have hx8 := bt_at a0 x11_1
         replace p8 := eq_true p8
         replace q8 := eq_true q8
         go_wp2
         go_ret
         exact ⟨by (rfl), by repeat (first | exact Drawn0.refl _ | apply Drawn0.step)⟩
       · rw [if_neg c9] at H
         have c9b0 : decide ((bt a0 x11_1) < a1) = false := decide_eq_false c9
         clear c9
         by_cases c11 : (bt a0 x11_1) > a2
         · rw [if_pos c11] at H
           have c11b0 : decide (a2 < (bt a0 x11_1)) = true := decide_eq_true c11
           clear c11
           obtain rfl := Option.some.inj H
           have p8 : 0 ≤ (x11_1 : Int) := of_decide_eq_true (by assumption)
           have q8 : x11_1 < (a0.size : Int) := of_decide_eq_true (by assumption)
           have hx8 := bt_at a0 x11_1
           replace p8 := eq_true p8
           replace q8 := eq_true q8
           have p10 : 0 ≤ (x11_1 : Int) := of_decide_eq_true (by assumption)
           have q10 : x11_1 < (a0.size : Int) := of_decide_eq_true (by assumption)
           have hx10 := bt_at a0 x11_1
           replace p10 := eq_true p10
           replace q10 := eq_true q10
           go_wp2
           go_ret
           exact ⟨by (rfl), by repeat (first | exact Drawn0.refl _ | apply Drawn0.step)⟩
         · rw [if_neg c11] at H
           have c11b0 : decide (a2 < (bt a0 x11_1)) = false := decide_eq_false c11
           clear c11
           have H' := Aside0.mk H
           clear H
           have p8 : 0 ≤ (x11_1 : Int) := of_decide_eq_true (by assumption)
           have q8 : x11_1 < (a0.size : Int) := of_decide_eq_true (by assumption)
           have hx8 := bt_at a0 x11_1
           replace p8 := eq_true p8
           replace q8 := eq_true q8
           have p10 : 0 ≤ (x11_1 : Int) := of_decide_eq_true (by assumption)
           have q10 : x11_1 < (a0.size : Int) := of_decide_eq_true (by assumption)
           have hx10 := bt_at a0 x11_1
           replace p10 := eq_true p10
           replace q10 := eq_true q10
           go_wp2
           go_roundg k1
           case measure => have := HK1.out; omega
           case rel => exact ⟨(wrap64 (x11_1 + 1)), rfl, H', ⟨by have := HK1.out; omega⟩, by repeat (first | exact Drawn0.refl _ | apply Drawn0.step)⟩
     · rw [if_neg c7] at H
       exact absurd H (by simp)
   · rw [if_neg c6] at H
     have c6b0 : decide (x11_1 < (a0.size : Int)) = false := decide_eq_false c6
     clear c6
     by_cases c12 : (a0.size : Int) ≥ a3
     · rw [if_pos c12] at H
       have c12b0 : decide (a3 ≤ (a0.size : Int)) = true := decide_eq_true c12
       clear c12
       obtain rfl := Option.some.inj H
       go_wp2
       go_ret
       exact ⟨by (rfl), by repeat (first | exact Drawn0.refl _ | apply Drawn0.step)⟩
     · rw [if_neg c12] at H
       have c12b0 : decide (a3 ≤ (a0.size : Int)) = false := decide_eq_false c12
       clear c12
       obtain rfl := Option.some.inj H
       go_wp2
       go_ret
       exact ⟨by (rfl), by repeat (first | exact Drawn0.refl _ | apply Drawn0.step)⟩
def wicketref11_url.f (k : Nat) (a0_0 : ByteArray) (a0_1 : ByteArray) (a0_2 : Int) (a0_3 : Bool) (a0_4 : ByteArray) (l0_5 : List ByteArray) : Option (Bool) := if a0_3 = true then ((wicketref11_bytes.f k a0_4 33 126 9 256).bind fun t345 => (if t345 = true then (if 0 ≤ 8 then (if 8 ≤ (a0_4.size : Int) then (some ((a0_4.extract 0 8).toList == ([104, 116, 116, 112, 115, 58, 47, 47] : List UInt8))) else (none)) else (none)) else (some false))) else (some (a0_4.toList == ([] : List UInt8)))
set_option maxHeartbeats 8000000 in
set_option maxRecDepth 100000 in
theorem wicketref11_url.calls (k : Nat) (a0_0 : ByteArray) (a0_1 : ByteArray) (a0_2 : Int) (a0_3 : Bool) (a0_4 : ByteArray) (A0_5 : Option Addr) (c0_5 : Nat) (l0_5 : List ByteArray) (r : Bool) (w : World) (hr0_5 : Kd.C Kd.string w A0_5 l0_5.length l0_5) (hc0_5 : l0_5.length ≤ c0_5) (h : wicketref11_url.f k a0_0 a0_1 a0_2 a0_3 a0_4 l0_5 = some r) :
 Calls Tryz.prog 59 #[.agg #[.string a0_0, .string a0_1, .int .i64 a0_2, .bool a0_3, .string a0_4, .slice A0_5 l0_5.length c0_5]] w fun e w' => e = .returned (.bool r) ∧ Below w.heap.size w w' := by
 have hu43 := Tryz.underlying43
 have HR0_5 := Aside0.mk hr0_5
 have HC0_5 := Aside0.mk hc0_5
 clear hr0_5 hc0_5
 have HB := Aside0.mk (Below.refl w.heap.size w)
 have H : (if a0_3 = true then ((wicketref11_bytes.f k a0_4 33 126 9 256).bind fun t345 => (if t345 = true then (if 0 ≤ 8 then (if 8 ≤ (a0_4.size : Int) then (some ((a0_4.extract 0 8).toList == ([104, 116, 116, 112, 115, 58, 47, 47] : List UInt8))) else (none)) else (none)) else (some false))) else (some (a0_4.toList == ([] : List UInt8)))) = some r := h
 clear h
 by_cases c2 : a0_3 = true
 · subst c2
   have H1 : ((wicketref11_bytes.f k a0_4 33 126 9 256).bind fun t345 => (if t345 = true then (if 0 ≤ 8 then (if 8 ≤ (a0_4.size : Int) then (some ((a0_4.extract 0 8).toList == ([104, 116, 116, 112, 115, 58, 47, 47] : List UInt8))) else (none)) else (none)) else (some false))) = some r := by rw [if_pos rfl] at H; exact H
   clear H
   have H := H1
   clear H1
   replace H := Option.bind_eq_some_iff.mp H
   obtain ⟨t345, A30, H⟩ := H
   replace H : (if t345 = true then (if 0 ≤ 8 then (if 8 ≤ (a0_4.size : Int) then (some ((a0_4.extract 0 8).toList == ([104, 116, 116, 112, 115, 58, 47, 47] : List UInt8))) else (none)) else (none)) else (some false)) = some r := H
   have A3 := Aside0.mk A30
   clear A30
   by_cases c4 : t345 = true
   · subst c4
     have H1 : (if 0 ≤ 8 then (if 8 ≤ (a0_4.size : Int) then (some ((a0_4.extract 0 8).toList == ([104, 116, 116, 112, 115, 58, 47, 47] : List UInt8))) else (none)) else (none)) = some r := by rw [if_pos rfl] at H; exact H
     clear H
     have H := H1
     clear H1
     by_cases c5 : 0 ≤ 8
     · rw [if_pos c5] at H
       have c5b0 := eq_true c5
       have c5b1 : decide (0 ≤ 8) = true := decide_eq_true c5
       clear c5
       by_cases c6 : 8 ≤ (a0_4.size : Int)
       · rw [if_pos c6] at H
         have c6b0 := eq_true c6
         have c6b1 : decide (8 ≤ (a0_4.size : Int)) = true := decide_eq_true c6
         clear c6
         obtain rfl := Option.some.inj H
         go_enter Tryz.func59, Tryz.ntmps59
         go_wp2_with (first | ((with_reducible refine gate_dst (N := 1) rfl ?_); refine box_event (by rfl) (N := 1) (by rfl) (cs := #[.string a0_0, .string a0_1, .int .i64 a0_2, .bool true, .string a0_4, .slice A0_5 l0_5.length c0_5]) (t := 43) (by go_simp) ?_; intro gb344 hg w7 hbox hb; have BK344 := Aside0.mk hbox; have GW344 := Aside0.mk ((by rw [hg]; exact (below_size HB.out) : w.heap.size ≤ gb344)); have GE344 := Aside0.mk ((by rw [hg]; exact (below_size HB.out) : w.heap.size ≤ gb344)); replace HB := Aside0.mk (below_step HB.out hb); clear hb hbox hg; obtain ⟨hcz8_0, hcz8_1, hcz8_2, hcz8_3, hcz8_4, hcz8_5, hfz8_0, hfz8_1, hfz8_2, hfz8_3, hfz8_4, hfz8_5⟩ := cz6_ BK344.out) | ((with_reducible refine gate_callee (f := 58) rfl ?_); refine goesL_ (some 12) rfl rfl Tryz.func58 (by kernel_rfl) rfl #[.string a0_4, .int .u8 33, .int .u8 126, .int .i64 9, .int .i64 256] rfl (by ((try simp only [List.map_toArray, List.map_cons, List.map_nil]); (rfl))) ?_; (with_reducible refine (wicketref11_bytes.calls k a0_4 33 126 9 256 true _ A3.out).mono ?_); rintro e w' ⟨rfl, ⟨nd, rfl⟩⟩; refine ⟨_, rfl, ?_⟩))
         go_ret
         exact ⟨by (rfl), by (repeat (with_reducible first | exact HB.out | apply pw_below_drewN))⟩
       · rw [if_neg c6] at H
         exact absurd H (by simp)
     · rw [if_neg c5] at H
       exact absurd H (by simp)
   · replace c4 := Bool.eq_false_iff.mpr c4
     subst c4
     have H1 : (some false) = some r := by rw [if_neg (show ¬ (false = true) by decide)] at H; exact H
     clear H
     have H := H1
     clear H1
     obtain rfl := Option.some.inj H
     go_enter Tryz.func59, Tryz.ntmps59
     go_wp2_with (first | ((with_reducible refine gate_dst (N := 1) rfl ?_); refine box_event (by rfl) (N := 1) (by rfl) (cs := #[.string a0_0, .string a0_1, .int .i64 a0_2, .bool true, .string a0_4, .slice A0_5 l0_5.length c0_5]) (t := 43) (by go_simp) ?_; intro gb344 hg w9 hbox hb; have BK344 := Aside0.mk hbox; have GW344 := Aside0.mk ((by rw [hg]; exact (below_size HB.out) : w.heap.size ≤ gb344)); have GE344 := Aside0.mk ((by rw [hg]; exact (below_size HB.out) : w.heap.size ≤ gb344)); replace HB := Aside0.mk (below_step HB.out hb); clear hb hbox hg; obtain ⟨hcz10_0, hcz10_1, hcz10_2, hcz10_3, hcz10_4, hcz10_5, hfz10_0, hfz10_1, hfz10_2, hfz10_3, hfz10_4, hfz10_5⟩ := cz6_ BK344.out) | ((with_reducible refine gate_callee (f := 58) rfl ?_); refine goesL_ (some 12) rfl rfl Tryz.func58 (by kernel_rfl) rfl #[.string a0_4, .int .u8 33, .int .u8 126, .int .i64 9, .int .i64 256] rfl (by ((try simp only [List.map_toArray, List.map_cons, List.map_nil]); (rfl))) ?_; (with_reducible refine (wicketref11_bytes.calls k a0_4 33 126 9 256 false _ A3.out).mono ?_); rintro e w' ⟨rfl, ⟨nd, rfl⟩⟩; refine ⟨_, rfl, ?_⟩))
     go_ret
     exact ⟨by (rfl), by (repeat (with_reducible first | exact HB.out | apply pw_below_drewN))⟩
 · replace c2 := Bool.eq_false_iff.mpr c2
   subst c2
   have H1 : (some (a0_4.toList == ([] : List UInt8))) = some r := by rw [if_neg (show ¬ (false = true) by decide)] at H; exact H
   clear H
   have H := H1
   clear H1
   obtain rfl := Option.some.inj H
   go_enter Tryz.func59, Tryz.ntmps59
   go_wp2_with (first | ((with_reducible refine gate_dst (N := 1) rfl ?_); refine box_event (by rfl) (N := 1) (by rfl) (cs := #[.string a0_0, .string a0_1, .int .i64 a0_2, .bool false, .string a0_4, .slice A0_5 l0_5.length c0_5]) (t := 43) (by go_simp) ?_; intro gb344 hg w11 hbox hb; have BK344 := Aside0.mk hbox; have GW344 := Aside0.mk ((by rw [hg]; exact (below_size HB.out) : w.heap.size ≤ gb344)); have GE344 := Aside0.mk ((by rw [hg]; exact (below_size HB.out) : w.heap.size ≤ gb344)); replace HB := Aside0.mk (below_step HB.out hb); clear hb hbox hg; obtain ⟨hcz12_0, hcz12_1, hcz12_2, hcz12_3, hcz12_4, hcz12_5, hfz12_0, hfz12_1, hfz12_2, hfz12_3, hfz12_4, hfz12_5⟩ := cz6_ BK344.out))
   go_ret
   exact ⟨by (rfl), by (with_reducible exact HB.out)⟩
end Go.Proofs.YtmimipgmhgalaaaGreatDoor.PAll
end
section
namespace Go.Proofs.YtmimipgmhgalaaaGreatDoor.PAll
open Go.RowKit Go.Proofs.YtmimipgmhgalaaaGreatDoorW.PrintWords Go.Proofs.YtmimipgmhgalaaaGreatDoorW.PrintLast Go.Proofs.YtmimipgmhgalaaaGreatDoorW.PrintMore
attribute [local go_sem] max2_int min2_int max_two min_two max_three min_three max_four min_four
set_option linter.unusedVariables false
set_option linter.unusedSimpArgs false
mutual
def wicketref11_Check.j0 : Nat → Bool → ByteArray → ByteArray → Int → Bool → ByteArray → List ByteArray → Option (Int)
 | 0, _, _, _, _, _, _, _ => none
 | k + 1, x5, x347000, x347001, x347002, x347003, x347004, x347005 => if x347003 = true then (if x347002 ≥ 2 then (wicketref11_Check.j1 k x5 (x347001.toList != ([] : List UInt8)) x347000 x347001 x347002 x347003 x347004 x347005) else (wicketref11_Check.j1 k x5 false x347000 x347001 x347002 x347003 x347004 x347005)) else (wicketref11_Check.j1 k x5 true x347000 x347001 x347002 x347003 x347004 x347005)
def wicketref11_Check.j1 : Nat → Bool → Bool → ByteArray → ByteArray → Int → Bool → ByteArray → List ByteArray → Option (Int)
 | 0, _, _, _, _, _, _, _, _ => none
 | k + 1, x5, x6, x347000, x347001, x347002, x347003, x347004, x347005 => (wicketref11_bytes.f k x347000 33 126 1 64).bind fun t353 => (if t353 = true then ((wicketref11_bytes.f k x347001 32 126 0 256).bind fun t354 => (if t354 = true then (if x347002 ≥ 1 then (if x347002 ≤ 3 then (if x6 = true then ((wicketref11_url.f k x347000 x347001 x347002 x347003 x347004 x347005).bind fun t355 => (if t355 = true then (if x5 = true then (some 0) else (some 111)) else (some 111))) else (some 111)) else (some 111)) else (some 111)) else (some 111))) else (some 111))
end
def wicketref11_Check.f (k : Nat) (a0_0 : ByteArray) (a0_1 : ByteArray) (a0_2 : Int) (a0_3 : Bool) (a0_4 : ByteArray) (l0_5 : List ByteArray) : Option (Int) := (wicketref11_Joined.f k l0_5).bind fun t347 => ((wicketref03_Scopes.f k t347).bind fun bt348 => (if bt348.2 = 0 then ((wicketref11_texts.f k bt348.1 l0_5).bind fun t352 => (wicketref11_Check.j0 k t352 a0_0 a0_1 a0_2 a0_3 a0_4 l0_5)) else (wicketref11_Check.j0 k false a0_0 a0_1 a0_2 a0_3 a0_4 l0_5)))
set_option maxHeartbeats 8000000 in
set_option maxRecDepth 100000 in
theorem wicketref11_Check.calls (k : Nat) (a0_0 : ByteArray) (a0_1 : ByteArray) (a0_2 : Int) (a0_3 : Bool) (a0_4 : ByteArray) (A0_5 : Option Addr) (c0_5 : Nat) (l0_5 : List ByteArray) (r : Int) (w : World) (hr0_5 : Kd.C Kd.string w A0_5 l0_5.length l0_5) (hc0_5 : l0_5.length ≤ c0_5) (h : wicketref11_Check.f k a0_0 a0_1 a0_2 a0_3 a0_4 l0_5 = some r) :
 Calls Tryz.prog 26 #[.agg #[.string a0_0, .string a0_1, .int .i64 a0_2, .bool a0_3, .string a0_4, .slice A0_5 l0_5.length c0_5]] w fun e w' => e = .returned (.int .i64 r) ∧ Below w.heap.size w w' := by
 have hu43 := Tryz.underlying43
 have HR0_5 := Aside0.mk hr0_5
 have HC0_5 := Aside0.mk hc0_5
 clear hr0_5 hc0_5
 have HB := Aside0.mk (Below.refl w.heap.size w)
 have H : ((wicketref11_Joined.f k l0_5).bind fun t347 => ((wicketref03_Scopes.f k t347).bind fun bt348 => (if bt348.2 = 0 then ((wicketref11_texts.f k bt348.1 l0_5).bind fun t352 => (wicketref11_Check.j0 k t352 a0_0 a0_1 a0_2 a0_3 a0_4 l0_5)) else (wicketref11_Check.j0 k false a0_0 a0_1 a0_2 a0_3 a0_4 l0_5)))) = some r := h
 clear h
 replace H := Option.bind_eq_some_iff.mp H
 obtain ⟨t347, A20, H⟩ := H
 replace H : ((wicketref03_Scopes.f k t347).bind fun bt348 => (if bt348.2 = 0 then ((wicketref11_texts.f k bt348.1 l0_5).bind fun t352 => (wicketref11_Check.j0 k t352 a0_0 a0_1 a0_2 a0_3 a0_4 l0_5)) else (wicketref11_Check.j0 k false a0_0 a0_1 a0_2 a0_3 a0_4 l0_5))) = some r := H
 have A2 := Aside0.mk A20
 clear A20
 replace H := Option.bind_eq_some_iff.mp H
 obtain ⟨⟨t348, t349⟩, A30, H⟩ := H
 replace H : (if t349 = 0 then ((wicketref11_texts.f k t348 l0_5).bind fun t352 => (wicketref11_Check.j0 k t352 a0_0 a0_1 a0_2 a0_3 a0_4 l0_5)) else (wicketref11_Check.j0 k false a0_0 a0_1 a0_2 a0_3 a0_4 l0_5)) = some r := H
 have A3 := Aside0.mk A30
 clear A30
 have HC4 := Aside0.mk H
 clear H
 go_enter Tryz.func26, Tryz.ntmps26
 go_upto_region 2 with (first | ((with_reducible refine gate_dst (N := 1) rfl ?_); refine box_event (by rfl) (N := 1) (by rfl) (cs := #[.string a0_0, .string a0_1, .int .i64 a0_2, .bool a0_3, .string a0_4, .slice A0_5 l0_5.length c0_5]) (t := 43) (by go_simp) ?_; intro gb346 hg w5 hbox hb; have BK346 := Aside0.mk hbox; have GW346 := Aside0.mk ((by rw [hg]; exact (below_size HB.out) : w.heap.size ≤ gb346)); have GE346 := Aside0.mk ((by rw [hg]; exact (below_size HB.out) : w.heap.size ≤ gb346)); replace HB := Aside0.mk (below_step HB.out hb); clear hb hbox hg; obtain ⟨hcz6_0, hcz6_1, hcz6_2, hcz6_3, hcz6_4, hcz6_5, hfz6_0, hfz6_1, hfz6_2, hfz6_3, hfz6_4, hfz6_5⟩ := cz6_ BK346.out) | ((with_reducible refine gate_callee (f := 42) rfl ?_); refine goesL_ (some 10) rfl rfl Tryz.func42 (by kernel_rfl) rfl #[.slice A0_5 l0_5.length c0_5] rfl (by ((try simp only [List.map_toArray, List.map_cons, List.map_nil]); (rfl))) ?_; (with_reducible refine (wicketref11_Joined.calls k _ _ l0_5 t347 _ ?side1 ?side2 A2.out).mono ?_); (case side1 => repeat (exact (Kd.C_below HR0_5.out HB.out))); (case side2 => exact HC0_5.out); rintro e w' ⟨rfl, ⟨nd, rfl⟩⟩; refine ⟨_, rfl, ?_⟩) | ((with_reducible refine gate_callee (f := 43) rfl ?_); refine goesL_ (some 11) rfl rfl Tryz.func43 (by kernel_rfl) rfl #[.string t347] rfl (by ((try simp only [List.map_toArray, List.map_cons, List.map_nil]); (rfl))) ?_; (with_reducible refine (wicketref03_Scopes.calls k t347 t348 t349 _ A3.out).mono ?_); rintro e w7 ⟨v350, rfl, ho0, hb⟩; refine ⟨_, rfl, ?_⟩; have HO351 := Aside0.mk (Kd.R_lower ho0 (below_size (by (repeat (with_reducible first | exact HB.out | apply pw_below_drewN))))); replace BK346 := Aside0.mk (blk_below (by ((with_reducible repeat (refine blk_drewN ?_ _)); exact BK346.out)) hb); replace HB := Aside0.mk (below_step (by (repeat (with_reducible first | exact HB.out | apply pw_below_drewN))) hb); clear hb ho0))
 go_cut [5] (fun v5 wc => ∃ (kq : Nat) (x5_3 : Bool), v5 = .bool x5_3 ∧ Aside0 (wicketref11_Check.j0 kq x5_3 a0_0 a0_1 a0_2 a0_3 a0_4 l0_5 = some r) ∧ Aside0 (kq ≤ k) ∧ Aside0 (wc.heap[gb346]? = some (.cells #[.string a0_0, .string a0_1, .int .i64 a0_2, .bool a0_3, .string a0_4, (.slice A0_5 l0_5.length c0_5)] 43 (0, 0))) ∧ Aside0 (Below w.heap.size w wc))
 case first =>
  have H := HC4.out
  clear HC4
  by_cases c8 : t349 = 0
  · rw [if_pos c8] at H
    have c8b0 : (t349 == 0) = true := beq_iff_eq.mpr c8
    have c8b1 : (t349 != 0) = false := bne_eq_false_iff_eq.mpr c8
    clear c8
    replace H := Option.bind_eq_some_iff.mp H
    obtain ⟨t352, A90, H⟩ := H
    replace H : (wicketref11_Check.j0 k t352 a0_0 a0_1 a0_2 a0_3 a0_4 l0_5) = some r := H
    have A9 := Aside0.mk A90
    clear A90
    have H' := Aside0.mk H
    clear H
    obtain ⟨hcz10_0, hcz10_1, hcz10_2, hcz10_3, hcz10_4, hcz10_5, hfz10_0, hfz10_1, hfz10_2, hfz10_3, hfz10_4, hfz10_5⟩ := cz6_ BK346.out
    obtain ⟨Ao11, co11, eo11⟩ := Kd.R_slice HO351.out
    subst eo11
    go_wp2_with (first | (go_at_call 57; (with_reducible refine (wicketref11_texts.calls k _ _ t348 _ _ l0_5 t352 _ ?side1 ?side2 ?side3 ?side4 A9.out).mono ?_); (case side1 => repeat (exact (Kd.R_reads' HO351.out).2.2)); (case side2 => exact (Kd.R_reads' HO351.out).2.1); (case side3 => repeat (exact (Kd.C_below HR0_5.out HB.out))); (case side4 => exact HC0_5.out); rintro e w' ⟨rfl, ⟨nd, rfl⟩⟩))
    go_meet
    case rel => exact ⟨_, (t352), rfl, H', ⟨by (omega)⟩, ⟨by ((with_reducible repeat (refine blk_drewN ?_ _)); exact BK346.out)⟩, ⟨by (repeat (with_reducible first | exact HB.out | apply pw_below_drewN))⟩⟩
  · rw [if_neg c8] at H
    have c8b0 : (t349 == 0) = false := beq_eq_false_iff_ne.mpr c8
    have c8b1 : (t349 != 0) = true := bne_iff_ne.mpr c8
    have H' := Aside0.mk H
    clear H
    go_wp2
    go_meet
    case rel => exact ⟨_, (false), rfl, H', ⟨by (omega)⟩, ⟨BK346.out⟩, ⟨HB.out⟩⟩
 case rest =>
  clear HC4 hcz6_0 hcz6_1 hcz6_2 hcz6_3 hcz6_4 hcz6_5 hfz6_0 hfz6_1 hfz6_2 hfz6_3 hfz6_4 hfz6_5
  obtain ⟨kq, x5_3, rfl, HA, HJ3, BK346, HB⟩ := hcut
  cases kq with
  | zero => exact absurd HA.out (by simp [wicketref11_Check.j0])
  | succ kj3 =>
   have H := HA.out
   clear HA
   simp only [wicketref11_Check.j0] at H
   have HC12 := Aside0.mk H
   clear H
   go_upto_region 3 with (fail)
   go_cut [6] (fun v6 wc => ∃ (kq : Nat) (x6_11 : Bool), v6 = .bool x6_11 ∧ Aside0 (wicketref11_Check.j1 kq x5_3 x6_11 a0_0 a0_1 a0_2 a0_3 a0_4 l0_5 = some r) ∧ Aside0 (kq ≤ kj3) ∧ Aside0 (wc.heap[gb346]? = some (.cells #[.string a0_0, .string a0_1, .int .i64 a0_2, .bool a0_3, .string a0_4, (.slice A0_5 l0_5.length c0_5)] 43 (0, 0))) ∧ Aside0 (Below w.heap.size w wc))
   case first =>
    have H := HC12.out
    clear HC12
    by_cases c13 : a0_3 = true
    · subst c13
      have H1 : (if a0_2 ≥ 2 then (wicketref11_Check.j1 kj3 x5_3 (a0_1.toList != ([] : List UInt8)) a0_0 a0_1 a0_2 true a0_4 l0_5) else (wicketref11_Check.j1 kj3 x5_3 false a0_0 a0_1 a0_2 true a0_4 l0_5)) = some r := by rw [if_pos rfl] at H; exact H
      clear H
      have H := H1
      clear H1
      by_cases c14 : a0_2 ≥ 2
      · rw [if_pos c14] at H
        have c14b0 : decide (2 ≤ a0_2) = true := decide_eq_true c14
        clear c14
        have H' := Aside0.mk H
        clear H
        obtain ⟨hcz15_0, hcz15_1, hcz15_2, hcz15_3, hcz15_4, hcz15_5, hfz15_0, hfz15_1, hfz15_2, hfz15_3, hfz15_4, hfz15_5⟩ := cz6_ BK346.out
        go_wp2
        go_meet
        case rel => exact ⟨_, ((a0_1.toList != ([] : List UInt8))), (by (simp; (generalize ByteArray.toList _ = z_); cases z_ <;> rfl)), H', ⟨by have := HJ3.out; (omega)⟩, ⟨BK346.out⟩, ⟨HB.out⟩⟩
      · rw [if_neg c14] at H
        have c14b0 : decide (2 ≤ a0_2) = false := decide_eq_false c14
        clear c14
        have H' := Aside0.mk H
        clear H
        obtain ⟨hcz16_0, hcz16_1, hcz16_2, hcz16_3, hcz16_4, hcz16_5, hfz16_0, hfz16_1, hfz16_2, hfz16_3, hfz16_4, hfz16_5⟩ := cz6_ BK346.out
        go_wp2
        go_meet
        case rel => exact ⟨_, (false), rfl, H', ⟨by have := HJ3.out; (omega)⟩, ⟨BK346.out⟩, ⟨HB.out⟩⟩
    · replace c13 := Bool.eq_false_iff.mpr c13
      subst c13
      have H1 : (wicketref11_Check.j1 kj3 x5_3 true a0_0 a0_1 a0_2 false a0_4 l0_5) = some r := by rw [if_neg (show ¬ (false = true) by decide)] at H; exact H
      clear H
      have H := H1
      clear H1
      have H' := Aside0.mk H
      clear H
      obtain ⟨hcz17_0, hcz17_1, hcz17_2, hcz17_3, hcz17_4, hcz17_5, hfz17_0, hfz17_1, hfz17_2, hfz17_3, hfz17_4, hfz17_5⟩ := cz6_ BK346.out
      go_wp2
      go_meet
      case rel => exact ⟨_, (true), rfl, H', ⟨by have := HJ3.out; (omega)⟩, ⟨BK346.out⟩, ⟨HB.out⟩⟩
   case rest =>
    clear HC12
    obtain ⟨kq, x6_11, rfl, HA, HJ11, BK346, HB⟩ := hcut
    cases kq with
    | zero => exact absurd HA.out (by simp [wicketref11_Check.j1])
    | succ kj11 =>
     have H := HA.out
     clear HA
     simp only [wicketref11_Check.j1] at H
     replace H := Option.bind_eq_some_iff.mp H
     obtain ⟨t353, A180, H⟩ := H
     replace H : (if t353 = true then ((wicketref11_bytes.f kj11 a0_1 32 126 0 256).bind fun t354 => (if t354 = true then (if a0_2 ≥ 1 then (if a0_2 ≤ 3 then (if x6_11 = true then ((wicketref11_url.f kj11 a0_0 a0_1 a0_2 a0_3 a0_4 l0_5).bind fun t355 => (if t355 = true then (if x5_3 = true then (some 0) else (some 111)) else (some 111))) else (some 111)) else (some 111)) else (some 111)) else (some 111))) else (some 111)) = some r := H
     have A18 := Aside0.mk A180
     clear A180
     by_cases c19 : t353 = true
     · subst c19
       have H1 : ((wicketref11_bytes.f kj11 a0_1 32 126 0 256).bind fun t354 => (if t354 = true then (if a0_2 ≥ 1 then (if a0_2 ≤ 3 then (if x6_11 = true then ((wicketref11_url.f kj11 a0_0 a0_1 a0_2 a0_3 a0_4 l0_5).bind fun t355 => (if t355 = true then (if x5_3 = true then (some 0) else (some 111)) else (some 111))) else (some 111)) else (some 111)) else (some 111)) else (some 111))) = some r := by rw [if_pos rfl] at H; exact H
       clear H
       have H := H1
       clear H1
       replace H := Option.bind_eq_some_iff.mp H
       obtain ⟨t354, A200, H⟩ := H
       replace H : (if t354 = true then (if a0_2 ≥ 1 then (if a0_2 ≤ 3 then (if x6_11 = true then ((wicketref11_url.f kj11 a0_0 a0_1 a0_2 a0_3 a0_4 l0_5).bind fun t355 => (if t355 = true then (if x5_3 = true then (some 0) else (some 111)) else (some 111))) else (some 111)) else (some 111)) else (some 111)) else (some 111)) = some r := H
       have A20 := Aside0.mk A200
       clear A200
       by_cases c21 : t354 = true
       · subst c21
         have H1 : (if a0_2 ≥ 1 then (if a0_2 ≤ 3 then (if x6_11 = true then ((wicketref11_url.f kj11 a0_0 a0_1 a0_2 a0_3 a0_4 l0_5).bind fun t355 => (if t355 = true then (if x5_3 = true then (some 0) else (some 111)) else (some 111))) else (some 111)) else (some 111)) else (some 111)) = some r := by rw [if_pos rfl] at H; exact H
         clear H
         have H := H1
         clear H1
         by_cases c22 : a0_2 ≥ 1
         · rw [if_pos c22] at H
           have c22b0 : decide (1 ≤ a0_2) = true := decide_eq_true c22
           clear c22
           by_cases c23 : a0_2 ≤ 3
           · rw [if_pos c23] at H
             have c23b0 : decide (a0_2 ≤ 3) = true := decide_eq_true c23
             clear c23
             by_cases c24 : x6_11 = true
             · subst c24
               have H1 : ((wicketref11_url.f kj11 a0_0 a0_1 a0_2 a0_3 a0_4 l0_5).bind fun t355 => (if t355 = true then (if x5_3 = true then (some 0) else (some 111)) else (some 111))) = some r := by rw [if_pos rfl] at H; exact H
               clear H
               have H := H1
               clear H1
               replace H := Option.bind_eq_some_iff.mp H
               obtain ⟨t355, A250, H⟩ := H
               replace H : (if t355 = true then (if x5_3 = true then (some 0) else (some 111)) else (some 111)) = some r := H
               have A25 := Aside0.mk A250
               clear A250
               by_cases c26 : t355 = true
               · subst c26
                 have H1 : (if x5_3 = true then (some 0) else (some 111)) = some r := by rw [if_pos rfl] at H; exact H
                 clear H
                 have H := H1
                 clear H1
                 by_cases c27 : x5_3 = true
                 · subst c27
                   have H1 : (some 0) = some r := by rw [if_pos rfl] at H; exact H
                   clear H
                   have H := H1
                   clear H1
                   obtain rfl := Option.some.inj H
                   obtain ⟨hcz28_0, hcz28_1, hcz28_2, hcz28_3, hcz28_4, hcz28_5, hfz28_0, hfz28_1, hfz28_2, hfz28_3, hfz28_4, hfz28_5⟩ := cz6_ BK346.out
                   go_wp2_with (first | ((with_reducible refine gate_callee (f := 58) rfl ?_); refine goesL_ (some 37) rfl rfl Tryz.func58 (by kernel_rfl) rfl #[.string a0_0, .int .u8 33, .int .u8 126, .int .i64 1, .int .i64 64] rfl (by ((try simp only [List.map_toArray, List.map_cons, List.map_nil]); (rfl))) ?_; (with_reducible refine (wicketref11_bytes.calls kj11 a0_0 33 126 1 64 true _ A18.out).mono ?_); rintro e w' ⟨rfl, ⟨nd, rfl⟩⟩; refine ⟨_, rfl, ?_⟩) | (go_at_call 58; (with_reducible refine (wicketref11_bytes.calls kj11 a0_1 32 126 0 256 true _ A20.out).mono ?_); rintro e w' ⟨rfl, ⟨nd, rfl⟩⟩) | (go_at_call 59; (with_reducible refine (wicketref11_url.calls kj11 a0_0 a0_1 a0_2 a0_3 a0_4 _ _ l0_5 true _ ?side1 ?side2 A25.out).mono ?_); (case side1 => repeat (exact (Kd.C_below HR0_5.out (by (repeat (with_reducible first | exact HB.out | apply pw_below_drewN)))))); (case side2 => exact HC0_5.out); rintro e w29 ⟨rfl, hb⟩; replace BK346 := Aside0.mk (blk_below (by ((with_reducible repeat (refine blk_drewN ?_ _)); exact BK346.out)) hb); replace HB := Aside0.mk (below_step (by (repeat (with_reducible first | exact HB.out | apply pw_below_drewN))) hb); clear hb))
                   go_ret
                   exact ⟨by (rfl), by (with_reducible exact HB.out)⟩
                 · replace c27 := Bool.eq_false_iff.mpr c27
                   subst c27
                   have H1 : (some 111) = some r := by rw [if_neg (show ¬ (false = true) by decide)] at H; exact H
                   clear H
                   have H := H1
                   clear H1
                   obtain rfl := Option.some.inj H
                   obtain ⟨hcz30_0, hcz30_1, hcz30_2, hcz30_3, hcz30_4, hcz30_5, hfz30_0, hfz30_1, hfz30_2, hfz30_3, hfz30_4, hfz30_5⟩ := cz6_ BK346.out
                   go_wp2_with (first | ((with_reducible refine gate_callee (f := 58) rfl ?_); refine goesL_ (some 37) rfl rfl Tryz.func58 (by kernel_rfl) rfl #[.string a0_0, .int .u8 33, .int .u8 126, .int .i64 1, .int .i64 64] rfl (by ((try simp only [List.map_toArray, List.map_cons, List.map_nil]); (rfl))) ?_; (with_reducible refine (wicketref11_bytes.calls kj11 a0_0 33 126 1 64 true _ A18.out).mono ?_); rintro e w' ⟨rfl, ⟨nd, rfl⟩⟩; refine ⟨_, rfl, ?_⟩) | (go_at_call 58; (with_reducible refine (wicketref11_bytes.calls kj11 a0_1 32 126 0 256 true _ A20.out).mono ?_); rintro e w' ⟨rfl, ⟨nd, rfl⟩⟩) | (go_at_call 59; (with_reducible refine (wicketref11_url.calls kj11 a0_0 a0_1 a0_2 a0_3 a0_4 _ _ l0_5 true _ ?side1 ?side2 A25.out).mono ?_); (case side1 => repeat (exact (Kd.C_below HR0_5.out (by (repeat (with_reducible first | exact HB.out | apply pw_below_drewN)))))); (case side2 => exact HC0_5.out); rintro e w31 ⟨rfl, hb⟩; replace BK346 := Aside0.mk (blk_below (by ((with_reducible repeat (refine blk_drewN ?_ _)); exact BK346.out)) hb); replace HB := Aside0.mk (below_step (by (repeat (with_reducible first | exact HB.out | apply pw_below_drewN))) hb); clear hb))
                   go_ret
                   exact ⟨by (rfl), by (with_reducible exact HB.out)⟩
               · replace c26 := Bool.eq_false_iff.mpr c26
                 subst c26
                 have H1 : (some 111) = some r := by rw [if_neg (show ¬ (false = true) by decide)] at H; exact H
                 clear H
                 have H := H1
                 clear H1
                 obtain rfl := Option.some.inj H
                 obtain ⟨hcz32_0, hcz32_1, hcz32_2, hcz32_3, hcz32_4, hcz32_5, hfz32_0, hfz32_1, hfz32_2, hfz32_3, hfz32_4, hfz32_5⟩ := cz6_ BK346.out
                 go_wp2_with (first | ((with_reducible refine gate_callee (f := 58) rfl ?_); refine goesL_ (some 37) rfl rfl Tryz.func58 (by kernel_rfl) rfl #[.string a0_0, .int .u8 33, .int .u8 126, .int .i64 1, .int .i64 64] rfl (by ((try simp only [List.map_toArray, List.map_cons, List.map_nil]); (rfl))) ?_; (with_reducible refine (wicketref11_bytes.calls kj11 a0_0 33 126 1 64 true _ A18.out).mono ?_); rintro e w' ⟨rfl, ⟨nd, rfl⟩⟩; refine ⟨_, rfl, ?_⟩) | (go_at_call 58; (with_reducible refine (wicketref11_bytes.calls kj11 a0_1 32 126 0 256 true _ A20.out).mono ?_); rintro e w' ⟨rfl, ⟨nd, rfl⟩⟩) | (go_at_call 59; (with_reducible refine (wicketref11_url.calls kj11 a0_0 a0_1 a0_2 a0_3 a0_4 _ _ l0_5 false _ ?side1 ?side2 A25.out).mono ?_); (case side1 => repeat (exact (Kd.C_below HR0_5.out (by (repeat (with_reducible first | exact HB.out | apply pw_below_drewN)))))); (case side2 => exact HC0_5.out); rintro e w33 ⟨rfl, hb⟩; replace BK346 := Aside0.mk (blk_below (by ((with_reducible repeat (refine blk_drewN ?_ _)); exact BK346.out)) hb); replace HB := Aside0.mk (below_step (by (repeat (with_reducible first | exact HB.out | apply pw_below_drewN))) hb); clear hb))
                 go_ret
                 exact ⟨by (rfl), by (with_reducible exact HB.out)⟩
             · replace c24 := Bool.eq_false_iff.mpr c24
               subst c24
               have H1 : (some 111) = some r := by rw [if_neg (show ¬ (false = true) by decide)] at H; exact H
               clear H
               have H := H1
               clear H1
               obtain rfl := Option.some.inj H
               obtain ⟨hcz34_0, hcz34_1, hcz34_2, hcz34_3, hcz34_4, hcz34_5, hfz34_0, hfz34_1, hfz34_2, hfz34_3, hfz34_4, hfz34_5⟩ := cz6_ BK346.out
               go_wp2_with (first | ((with_reducible refine gate_callee (f := 58) rfl ?_); refine goesL_ (some 37) rfl rfl Tryz.func58 (by kernel_rfl) rfl #[.string a0_0, .int .u8 33, .int .u8 126, .int .i64 1, .int .i64 64] rfl (by ((try simp only [List.map_toArray, List.map_cons, List.map_nil]); (rfl))) ?_; (with_reducible refine (wicketref11_bytes.calls kj11 a0_0 33 126 1 64 true _ A18.out).mono ?_); rintro e w' ⟨rfl, ⟨nd, rfl⟩⟩; refine ⟨_, rfl, ?_⟩) | (go_at_call 58; (with_reducible refine (wicketref11_bytes.calls kj11 a0_1 32 126 0 256 true _ A20.out).mono ?_); rintro e w' ⟨rfl, ⟨nd, rfl⟩⟩))
               go_ret
               exact ⟨by (rfl), by (repeat (with_reducible first | exact HB.out | apply pw_below_drewN))⟩
           · rw [if_neg c23] at H
             have c23b0 : decide (a0_2 ≤ 3) = false := decide_eq_false c23
             clear c23
             obtain rfl := Option.some.inj H
             obtain ⟨hcz35_0, hcz35_1, hcz35_2, hcz35_3, hcz35_4, hcz35_5, hfz35_0, hfz35_1, hfz35_2, hfz35_3, hfz35_4, hfz35_5⟩ := cz6_ BK346.out
             go_wp2_with (first | ((with_reducible refine gate_callee (f := 58) rfl ?_); refine goesL_ (some 37) rfl rfl Tryz.func58 (by kernel_rfl) rfl #[.string a0_0, .int .u8 33, .int .u8 126, .int .i64 1, .int .i64 64] rfl (by ((try simp only [List.map_toArray, List.map_cons, List.map_nil]); (rfl))) ?_; (with_reducible refine (wicketref11_bytes.calls kj11 a0_0 33 126 1 64 true _ A18.out).mono ?_); rintro e w' ⟨rfl, ⟨nd, rfl⟩⟩; refine ⟨_, rfl, ?_⟩) | (go_at_call 58; (with_reducible refine (wicketref11_bytes.calls kj11 a0_1 32 126 0 256 true _ A20.out).mono ?_); rintro e w' ⟨rfl, ⟨nd, rfl⟩⟩))
             go_ret
             exact ⟨by (rfl), by (repeat (with_reducible first | exact HB.out | apply pw_below_drewN))⟩
         · rw [if_neg c22] at H
           have c22b0 : decide (1 ≤ a0_2) = false := decide_eq_false c22
           clear c22
           obtain rfl := Option.some.inj H
           obtain ⟨hcz36_0, hcz36_1, hcz36_2, hcz36_3, hcz36_4, hcz36_5, hfz36_0, hfz36_1, hfz36_2, hfz36_3, hfz36_4, hfz36_5⟩ := cz6_ BK346.out
           go_wp2_with (first | ((with_reducible refine gate_callee (f := 58) rfl ?_); refine goesL_ (some 37) rfl rfl Tryz.func58 (by kernel_rfl) rfl #[.string a0_0, .int .u8 33, .int .u8 126, .int .i64 1, .int .i64 64] rfl (by ((try simp only [List.map_toArray, List.map_cons, List.map_nil]); (rfl))) ?_; (with_reducible refine (wicketref11_bytes.calls kj11 a0_0 33 126 1 64 true _ A18.out).mono ?_); rintro e w' ⟨rfl, ⟨nd, rfl⟩⟩; refine ⟨_, rfl, ?_⟩) | (go_at_call 58; (with_reducible refine (wicketref11_bytes.calls kj11 a0_1 32 126 0 256 true _ A20.out).mono ?_); rintro e w' ⟨rfl, ⟨nd, rfl⟩⟩))
           go_ret
           exact ⟨by (rfl), by (repeat (with_reducible first | exact HB.out | apply pw_below_drewN))⟩
       · replace c21 := Bool.eq_false_iff.mpr c21
         subst c21
         have H1 : (some 111) = some r := by rw [if_neg (show ¬ (false = true) by decide)] at H; exact H
         clear H
         have H := H1
         clear H1
         obtain rfl := Option.some.inj H
         obtain ⟨hcz37_0, hcz37_1, hcz37_2, hcz37_3, hcz37_4, hcz37_5, hfz37_0, hfz37_1, hfz37_2, hfz37_3, hfz37_4, hfz37_5⟩ := cz6_ BK346.out
         go_wp2_with (first | ((with_reducible refine gate_callee (f := 58) rfl ?_); refine goesL_ (some 37) rfl rfl Tryz.func58 (by kernel_rfl) rfl #[.string a0_0, .int .u8 33, .int .u8 126, .int .i64 1, .int .i64 64] rfl (by ((try simp only [List.map_toArray, List.map_cons, List.map_nil]); (rfl))) ?_; (with_reducible refine (wicketref11_bytes.calls kj11 a0_0 33 126 1 64 true _ A18.out).mono ?_); rintro e w' ⟨rfl, ⟨nd, rfl⟩⟩; refine ⟨_, rfl, ?_⟩) | (go_at_call 58; (with_reducible refine (wicketref11_bytes.calls kj11 a0_1 32 126 0 256 false _ A20.out).mono ?_); rintro e w' ⟨rfl, ⟨nd, rfl⟩⟩))
         go_ret
         exact ⟨by (rfl), by (repeat (with_reducible first | exact HB.out | apply pw_below_drewN))⟩
     · replace c19 := Bool.eq_false_iff.mpr c19
       subst c19
       have H1 : (some 111) = some r := by rw [if_neg (show ¬ (false = true) by decide)] at H; exact H
       clear H
       have H := H1
       clear H1
       obtain rfl := Option.some.inj H
       obtain ⟨hcz38_0, hcz38_1, hcz38_2, hcz38_3, hcz38_4, hcz38_5, hfz38_0, hfz38_1, hfz38_2, hfz38_3, hfz38_4, hfz38_5⟩ := cz6_ BK346.out
       go_wp2_with (first | ((with_reducible refine gate_callee (f := 58) rfl ?_); refine goesL_ (some 37) rfl rfl Tryz.func58 (by kernel_rfl) rfl #[.string a0_0, .int .u8 33, .int .u8 126, .int .i64 1, .int .i64 64] rfl (by ((try simp only [List.map_toArray, List.map_cons, List.map_nil]); (rfl))) ?_; (with_reducible refine (wicketref11_bytes.calls kj11 a0_0 33 126 1 64 false _ A18.out).mono ?_); rintro e w' ⟨rfl, ⟨nd, rfl⟩⟩; refine ⟨_, rfl, ?_⟩))
       go_ret
       exact ⟨by (rfl), by (repeat (with_reducible first | exact HB.out | apply pw_below_drewN))⟩
end Go.Proofs.YtmimipgmhgalaaaGreatDoor.PAll
end
section
namespace Go.Proofs.YtmimipgmhgalaaaGreatDoor.PAll
open Go.RowKit Go.Proofs.YtmimipgmhgalaaaGreatDoorW.PrintWords Go.Proofs.YtmimipgmhgalaaaGreatDoorW.PrintLast Go.Proofs.YtmimipgmhgalaaaGreatDoorW.PrintMore
attribute [local go_sem] max2_int min2_int max_two min_two max_three min_three max_four min_four
set_option linter.unusedVariables false
set_option linter.unusedSimpArgs false
def wicketref03_plain.f (a0 : Int) : Option (Bool) := if a0 ≥ 65 then (if a0 ≤ 90 then (some true) else (if a0 ≥ 97 then (if a0 ≤ 122 then (some true) else (if a0 ≥ 48 then (if a0 ≤ 57 then (some true) else (if a0 = 45 then (some true) else (if a0 = 46 then (some true) else (if a0 = 95 then (some true) else (some (a0 == 42)))))) else (if a0 = 45 then (some true) else (if a0 = 46 then (some true) else (if a0 = 95 then (some true) else (some (a0 == 42))))))) else (if a0 ≥ 48 then (if a0 ≤ 57 then (some true) else (if a0 = 45 then (some true) else (if a0 = 46 then (some true) else (if a0 = 95 then (some true) else (some (a0 == 42)))))) else (if a0 = 45 then (some true) else (if a0 = 46 then (some true) else (if a0 = 95 then (some true) else (some (a0 == 42)))))))) else (if a0 ≥ 97 then (if a0 ≤ 122 then (some true) else (if a0 ≥ 48 then (if a0 ≤ 57 then (some true) else (if a0 = 45 then (some true) else (if a0 = 46 then (some true) else (if a0 = 95 then (some true) else (some (a0 == 42)))))) else (if a0 = 45 then (some true) else (if a0 = 46 then (some true) else (if a0 = 95 then (some true) else (some (a0 == 42))))))) else (if a0 ≥ 48 then (if a0 ≤ 57 then (some true) else (if a0 = 45 then (some true) else (if a0 = 46 then (some true) else (if a0 = 95 then (some true) else (some (a0 == 42)))))) else (if a0 = 45 then (some true) else (if a0 = 46 then (some true) else (if a0 = 95 then (some true) else (some (a0 == 42)))))))
set_option maxHeartbeats 8000000 in
set_option maxRecDepth 100000 in
theorem wicketref03_plain.calls (a0 : Int) (r : Bool) (w : World) (h : wicketref03_plain.f a0 = some r) :
 Calls Tryz.prog 73 #[.int .u8 a0] w fun e w' => e = .returned (.bool r) ∧ Drawn0 w w' := by
 have H : (if a0 ≥ 65 then (if a0 ≤ 90 then (some true) else (if a0 ≥ 97 then (if a0 ≤ 122 then (some true) else (if a0 ≥ 48 then (if a0 ≤ 57 then (some true) else (if a0 = 45 then (some true) else (if a0 = 46 then (some true) else (if a0 = 95 then (some true) else (some (a0 == 42)))))) else (if a0 = 45 then (some true) else (if a0 = 46 then (some true) else (if a0 = 95 then (some true) else (some (a0 == 42))))))) else (if a0 ≥ 48 then (if a0 ≤ 57 then (some true) else (if a0 = 45 then (some true) else (if a0 = 46 then (some true) else (if a0 = 95 then (some true) else (some (a0 == 42)))))) else (if a0 = 45 then (some true) else (if a0 = 46 then (some true) else (if a0 = 95 then (some true) else (some (a0 == 42)))))))) else (if a0 ≥ 97 then (if a0 ≤ 122 then (some true) else (if a0 ≥ 48 then (if a0 ≤ 57 then (some true) else (if a0 = 45 then (some true) else (if a0 = 46 then (some true) else (if a0 = 95 then (some true) else (some (a0 == 42)))))) else (if a0 = 45 then (some true) else (if a0 = 46 then (some true) else (if a0 = 95 then (some true) else (some (a0 == 42))))))) else (if a0 ≥ 48 then (if a0 ≤ 57 then (some true) else (if a0 = 45 then (some true) else (if a0 = 46 then (some true) else (if a0 = 95 then (some true) else (some (a0 == 42)))))) else (if a0 = 45 then (some true) else (if a0 = 46 then (some true) else (if a0 = 95 then (some true) else (some (a0 == 42)))))))) = some r := h
 clear h
 by_cases c2 : a0 ≥ 65
 · rw [if_pos c2] at H
   have c2b0 : decide (65 ≤ a0) = true := decide_eq_true c2
   clear c2
   by_cases c3 : a0 ≤ 90
   · rw [if_pos c3] at H
     have c3b0 : decide (a0 ≤ 90) = true := decide_eq_true c3
     clear c3
     obtain rfl := Option.some.inj H
     go_enter Tryz.func73, Tryz.ntmps73
     go_wp2
     go_ret
     exact ⟨by (rfl), by repeat (exact Drawn0.refl _)⟩
   · rw [if_neg c3] at H
     have c3b0 : decide (a0 ≤ 90) = false := decide_eq_false c3
     clear c3
     by_cases c4 : a0 ≥ 97
     · rw [if_pos c4] at H
       have c4b0 : decide (97 ≤ a0) = true := decide_eq_true c4
       clear c4
       by_cases c5 : a0 ≤ 122
       · rw [if_pos c5] at H
         have c5b0 : decide (a0 ≤ 122) = true := decide_eq_true c5
         clear c5
         obtain rfl := Option.some.inj H
         go_enter Tryz.func73, Tryz.ntmps73
         go_wp2
         go_ret
         exact ⟨by (rfl), by repeat (exact Drawn0.refl _)⟩
       · rw [if_neg c5] at H
         have c5b0 : decide (a0 ≤ 122) = false := decide_eq_false c5
         clear c5
         by_cases c6 : a0 ≥ 48
         · rw [if_pos c6] at H
           have c6b0 : decide (48 ≤ a0) = true := decide_eq_true c6
           clear c6
           by_cases c7 : a0 ≤ 57
           · rw [if_pos c7] at H
             have c7b0 : decide (a0 ≤ 57) = true := decide_eq_true c7
             clear c7
             obtain rfl := Option.some.inj H
             go_enter Tryz.func73, Tryz.ntmps73
             go_wp2
             go_ret
             exact ⟨by (rfl), by repeat (exact Drawn0.refl _)⟩
           · rw [if_neg c7] at H
             have c7b0 : decide (a0 ≤ 57) = false := decide_eq_false c7
             clear c7
             by_cases c8 : a0 = 45
             · rw [if_pos c8] at H
               have c8b0 : (a0 == 45) = true := beq_iff_eq.mpr c8
               have c8b1 : (a0 != 45) = false := bne_eq_false_iff_eq.mpr c8
               clear c8
               obtain rfl := Option.some.inj H
               go_enter Tryz.func73, Tryz.ntmps73
               go_wp2
               go_ret
               exact ⟨by (rfl), by repeat (exact Drawn0.refl _)⟩
             · rw [if_neg c8] at H
               have c8b0 : (a0 == 45) = false := beq_eq_false_iff_ne.mpr c8
               have c8b1 : (a0 != 45) = true := bne_iff_ne.mpr c8
               by_cases c9 : a0 = 46
               · rw [if_pos c9] at H
                 have c9b0 : (a0 == 46) = true := beq_iff_eq.mpr c9
                 have c9b1 : (a0 != 46) = false := bne_eq_false_iff_eq.mpr c9
                 clear c9
                 obtain rfl := Option.some.inj H
                 go_enter Tryz.func73, Tryz.ntmps73
                 go_wp2
                 go_ret
                 exact ⟨by (rfl), by repeat (exact Drawn0.refl _)⟩
               · rw [if_neg c9] at H
                 have c9b0 : (a0 == 46) = false := beq_eq_false_iff_ne.mpr c9
                 have c9b1 : (a0 != 46) = true := bne_iff_ne.mpr c9
                 by_cases c10 : a0 = 95
                 · rw [if_pos c10] at H
                   have c10b0 : (a0 == 95) = true := beq_iff_eq.mpr c10
                   have c10b1 : (a0 != 95) = false := bne_eq_false_iff_eq.mpr c10
                   clear c10
                   obtain rfl := Option.some.inj H
                   go_enter Tryz.func73, Tryz.ntmps73
                   go_wp2
                   go_ret
                   exact ⟨by (rfl), by repeat (exact Drawn0.refl _)⟩
                 · rw [if_neg c10] at H
                   have c10b0 : (a0 == 95) = false := beq_eq_false_iff_ne.mpr c10
                   have c10b1 : (a0 != 95) = true := bne_iff_ne.mpr c10
                   obtain rfl := Option.some.inj H
                   go_enter Tryz.func73, Tryz.ntmps73
                   go_wp2
                   go_ret
                   exact ⟨by (rfl), by repeat (exact Drawn0.refl _)⟩
         · rw [if_neg c6] at H
           have c6b0 : decide (48 ≤ a0) = false := decide_eq_false c6
           clear c6
           by_cases c11 : a0 = 45
           · rw [if_pos c11] at H
             have c11b0 : (a0 == 45) = true := beq_iff_eq.mpr c11
             have c11b1 : (a0 != 45) = false := bne_eq_false_iff_eq.mpr c11
             clear c11
             obtain rfl := Option.some.inj H
             go_enter Tryz.func73, Tryz.ntmps73
             go_wp2
             go_ret
             exact ⟨by (rfl), by repeat (exact Drawn0.refl _)⟩
           · rw [if_neg c11] at H
             have c11b0 : (a0 == 45) = false := beq_eq_false_iff_ne.mpr c11
             have c11b1 : (a0 != 45) = true := bne_iff_ne.mpr c11
             by_cases c12 : a0 = 46
             · rw [if_pos c12] at H
               have c12b0 : (a0 == 46) = true := beq_iff_eq.mpr c12
               have c12b1 : (a0 != 46) = false := bne_eq_false_iff_eq.mpr c12
               clear c12
               obtain rfl := Option.some.inj H
               go_enter Tryz.func73, Tryz.ntmps73
               go_wp2
               go_ret
               exact ⟨by (rfl), by repeat (exact Drawn0.refl _)⟩
             · rw [if_neg c12] at H
               have c12b0 : (a0 == 46) = false := beq_eq_false_iff_ne.mpr c12
               have c12b1 : (a0 != 46) = true := bne_iff_ne.mpr c12
               by_cases c13 : a0 = 95
               · rw [if_pos c13] at H
                 have c13b0 : (a0 == 95) = true := beq_iff_eq.mpr c13
                 have c13b1 : (a0 != 95) = false := bne_eq_false_iff_eq.mpr c13
                 clear c13
                 obtain rfl := Option.some.inj H
                 go_enter Tryz.func73, Tryz.ntmps73
                 go_wp2
                 go_ret
                 exact ⟨by (rfl), by repeat (exact Drawn0.refl _)⟩
               · rw [if_neg c13] at H
                 have c13b0 : (a0 == 95) = false := beq_eq_false_iff_ne.mpr c13
                 have c13b1 : (a0 != 95) = true := bne_iff_ne.mpr c13
                 obtain rfl := Option.some.inj H
                 go_enter Tryz.func73, Tryz.ntmps73
                 go_wp2
                 go_ret
                 exact ⟨by (rfl), by repeat (exact Drawn0.refl _)⟩
     · rw [if_neg c4] at H
       have c4b0 : decide (97 ≤ a0) = false := decide_eq_false c4
       clear c4
       by_cases c14 : a0 ≥ 48
       · rw [if_pos c14] at H
         have c14b0 : decide (48 ≤ a0) = true := decide_eq_true c14
         clear c14
         by_cases c15 : a0 ≤ 57
         · rw [if_pos c15] at H
           have c15b0 : decide (a0 ≤ 57) = true := decide_eq_true c15
           clear c15
           obtain rfl := Option.some.inj H
           go_enter Tryz.func73, Tryz.ntmps73
           go_wp2
           go_ret
           exact ⟨by (rfl), by repeat (exact Drawn0.refl _)⟩
         · rw [if_neg c15] at H
           have c15b0 : decide (a0 ≤ 57) = false := decide_eq_false c15
           clear c15
           by_cases c16 : a0 = 45
           · rw [if_pos c16] at H
             have c16b0 : (a0 == 45) = true := beq_iff_eq.mpr c16
             have c16b1 : (a0 != 45) = false := bne_eq_false_iff_eq.mpr c16
             clear c16
             obtain rfl := Option.some.inj H
             go_enter Tryz.func73, Tryz.ntmps73
             go_wp2
             go_ret
             exact ⟨by (rfl), by repeat (exact Drawn0.refl _)⟩
           · rw [if_neg c16] at H
             have c16b0 : (a0 == 45) = false := beq_eq_false_iff_ne.mpr c16
             have c16b1 : (a0 != 45) = true := bne_iff_ne.mpr c16
             by_cases c17 : a0 = 46
             · rw [if_pos c17] at H
               have c17b0 : (a0 == 46) = true := beq_iff_eq.mpr c17
               have c17b1 : (a0 != 46) = false := bne_eq_false_iff_eq.mpr c17
               clear c17
               obtain rfl := Option.some.inj H
               go_enter Tryz.func73, Tryz.ntmps73
               go_wp2
               go_ret
               exact ⟨by (rfl), by repeat (exact Drawn0.refl _)⟩
             · rw [if_neg c17] at H
               have c17b0 : (a0 == 46) = false := beq_eq_false_iff_ne.mpr c17
               have c17b1 : (a0 != 46) = true := bne_iff_ne.mpr c17
               by_cases c18 : a0 = 95
               · rw [if_pos c18] at H
                 have c18b0 : (a0 == 95) = true := beq_iff_eq.mpr c18
                 have c18b1 : (a0 != 95) = false := bne_eq_false_iff_eq.mpr c18
                 clear c18
                 obtain rfl := Option.some.inj H
                 go_enter Tryz.func73, Tryz.ntmps73
                 go_wp2
                 go_ret
                 exact ⟨by (rfl), by repeat (exact Drawn0.refl _)⟩
               · rw [if_neg c18] at H
                 have c18b0 : (a0 == 95) = false := beq_eq_false_iff_ne.mpr c18
                 have c18b1 : (a0 != 95) = true := bne_iff_ne.mpr c18
                 obtain rfl := Option.some.inj H
                 go_enter Tryz.func73, Tryz.ntmps73
                 go_wp2
                 go_ret
                 exact ⟨by (rfl), by repeat (exact Drawn0.refl _)⟩
       · rw [if_neg c14] at H
         have c14b0 : decide (48 ≤ a0) = false := decide_eq_false c14
         clear c14
         by_cases c19 : a0 = 45
         · rw [if_pos c19] at H
           have c19b0 : (a0 == 45) = true := beq_iff_eq.mpr c19
           have c19b1 : (a0 != 45) = false := bne_eq_false_iff_eq.mpr c19
           clear c19
           obtain rfl := Option.some.inj H
           go_enter Tryz.func73, Tryz.ntmps73
           go_wp2
           go_ret
           exact ⟨by (rfl), by repeat (exact Drawn0.refl _)⟩
         · rw [if_neg c19] at H
           have c19b0 : (a0 == 45) = false := beq_eq_false_iff_ne.mpr c19
           have c19b1 : (a0 != 45) = true := bne_iff_ne.mpr c19
           by_cases c20 : a0 = 46
           · rw [if_pos c20] at H
             have c20b0 : (a0 == 46) = true := beq_iff_eq.mpr c20
             have c20b1 : (a0 != 46) = false := bne_eq_false_iff_eq.mpr c20
             clear c20
             obtain rfl := Option.some.inj H
             go_enter Tryz.func73, Tryz.ntmps73
             go_wp2
             go_ret
             exact ⟨by (rfl), by repeat (exact Drawn0.refl _)⟩
           · rw [if_neg c20] at H
             have c20b0 : (a0 == 46) = false := beq_eq_false_iff_ne.mpr c20
             have c20b1 : (a0 != 46) = true := bne_iff_ne.mpr c20
             by_cases c21 : a0 = 95
             · rw [if_pos c21] at H
               have c21b0 : (a0 == 95) = true := beq_iff_eq.mpr c21
               have c21b1 : (a0 != 95) = false := bne_eq_false_iff_eq.mpr c21
               clear c21
               obtain rfl := Option.some.inj H
               go_enter Tryz.func73, Tryz.ntmps73
               go_wp2
               go_ret
               exact ⟨by (rfl), by repeat (exact Drawn0.refl _)⟩
             · rw [if_neg c21] at H
               have c21b0 : (a0 == 95) = false := beq_eq_false_iff_ne.mpr c21
               have c21b1 : (a0 != 95) = true := bne_iff_ne.mpr c21
               obtain rfl := Option.some.inj H
               go_enter Tryz.func73, Tryz.ntmps73
               go_wp2
               go_ret
               exact ⟨by (rfl), by repeat (exact Drawn0.refl _)⟩
 · rw [if_neg c2] at H
   have c2b0 : decide (65 ≤ a0) = false := decide_eq_false c2
   clear c2
   by_cases c22 : a0 ≥ 97
   · rw [if_pos c22] at H
     have c22b0 : decide (97 ≤ a0) = true := decide_eq_true c22
     clear c22
     by_cases c23 : a0 ≤ 122
     · rw [if_pos c23] at H
       have c23b0 : decide (a0 ≤ 122) = true := decide_eq_true c23
       clear c23
       obtain rfl := Option.some.inj H
       go_enter Tryz.func73, Tryz.ntmps73
       go_wp2
       go_ret
       exact ⟨by (rfl), by repeat (exact Drawn0.refl _)⟩
     · rw [if_neg c23] at H
       have c23b0 : decide (a0 ≤ 122) = false := decide_eq_false c23
       clear c23
       by_cases c24 : a0 ≥ 48
       · rw [if_pos c24] at H
         have c24b0 : decide (48 ≤ a0) = true := decide_eq_true c24
         clear c24
         by_cases c25 : a0 ≤ 57
         · rw [if_pos c25] at H
           have c25b0 : decide (a0 ≤ 57) = true := decide_eq_true c25
           clear c25
           obtain rfl := Option.some.inj H
           go_enter Tryz.func73, Tryz.ntmps73
           go_wp2
           go_ret
           exact ⟨by (rfl), by repeat (exact Drawn0.refl _)⟩
         · rw [if_neg c25] at H
           have c25b0 : decide (a0 ≤ 57) = false := decide_eq_false c25
           clear c25
           by_cases c26 : a0 = 45
           · rw [if_pos c26] at H
             have c26b0 : (a0 == 45) = true := beq_iff_eq.mpr c26
             have c26b1 : (a0 != 45) = false := bne_eq_false_iff_eq.mpr c26
             clear c26
             obtain rfl := Option.some.inj H
             go_enter Tryz.func73, Tryz.ntmps73
             go_wp2
             go_ret
             exact ⟨by (rfl), by repeat (exact Drawn0.refl _)⟩
           · rw [if_neg c26] at H
             have c26b0 : (a0 == 45) = false := beq_eq_false_iff_ne.mpr c26
             have c26b1 : (a0 != 45) = true := bne_iff_ne.mpr c26
             by_cases c27 : a0 = 46
             · rw [if_pos c27] at H
               have c27b0 : (a0 == 46) = true := beq_iff_eq.mpr c27
               have c27b1 : (a0 != 46) = false := bne_eq_false_iff_eq.mpr c27
               clear c27
               obtain rfl := Option.some.inj H
               go_enter Tryz.func73, Tryz.ntmps73
               go_wp2
               go_ret
               exact ⟨by (rfl), by repeat (exact Drawn0.refl _)⟩
             · rw [if_neg c27] at H
               have c27b0 : (a0 == 46) = false := beq_eq_false_iff_ne.mpr c27
               have c27b1 : (a0 != 46) = true := bne_iff_ne.mpr c27
               by_cases c28 : a0 = 95
               · rw [if_pos c28] at H
                 have c28b0 : (a0 == 95) = true := beq_iff_eq.mpr c28
                 have c28b1 : (a0 != 95) = false := bne_eq_false_iff_eq.mpr c28
                 clear c28
                 obtain rfl := Option.some.inj H
                 go_enter Tryz.func73, Tryz.ntmps73
                 go_wp2
                 go_ret
                 exact ⟨by (rfl), by repeat (exact Drawn0.refl _)⟩
               · rw [if_neg c28] at H
                 have c28b0 : (a0 == 95) = false := beq_eq_false_iff_ne.mpr c28
                 have c28b1 : (a0 != 95) = true := bne_iff_ne.mpr c28
                 obtain rfl := Option.some.inj H
                 go_enter Tryz.func73, Tryz.ntmps73
                 go_wp2
                 go_ret
                 exact ⟨by (rfl), by repeat (exact Drawn0.refl _)⟩
       · rw [if_neg c24] at H
         have c24b0 : decide (48 ≤ a0) = false := decide_eq_false c24
         clear c24
         by_cases c29 : a0 = 45
         · rw [if_pos c29] at H
           have c29b0 : (a0 == 45) = true := beq_iff_eq.mpr c29
           have c29b1 : (a0 != 45) = false := bne_eq_false_iff_eq.mpr c29
           clear c29
           obtain rfl := Option.some.inj H
           go_enter Tryz.func73, Tryz.ntmps73
           go_wp2
           go_ret
           exact ⟨by (rfl), by repeat (exact Drawn0.refl _)⟩
         · rw [if_neg c29] at H
           have c29b0 : (a0 == 45) = false := beq_eq_false_iff_ne.mpr c29
           have c29b1 : (a0 != 45) = true := bne_iff_ne.mpr c29
           by_cases c30 : a0 = 46
           · rw [if_pos c30] at H
             have c30b0 : (a0 == 46) = true := beq_iff_eq.mpr c30
             have c30b1 : (a0 != 46) = false := bne_eq_false_iff_eq.mpr c30
             clear c30
             obtain rfl := Option.some.inj H
             go_enter Tryz.func73, Tryz.ntmps73
             go_wp2
             go_ret
             exact ⟨by (rfl), by repeat (exact Drawn0.refl _)⟩
           · rw [if_neg c30] at H
             have c30b0 : (a0 == 46) = false := beq_eq_false_iff_ne.mpr c30
             have c30b1 : (a0 != 46) = true := bne_iff_ne.mpr c30
             by_cases c31 : a0 = 95
             · rw [if_pos c31] at H
               have c31b0 : (a0 == 95) = true := beq_iff_eq.mpr c31
               have c31b1 : (a0 != 95) = false := bne_eq_false_iff_eq.mpr c31
               clear c31
               obtain rfl := Option.some.inj H
               go_enter Tryz.func73, Tryz.ntmps73
               go_wp2
               go_ret
               exact ⟨by (rfl), by repeat (exact Drawn0.refl _)⟩
             · rw [if_neg c31] at H
               have c31b0 : (a0 == 95) = false := beq_eq_false_iff_ne.mpr c31
               have c31b1 : (a0 != 95) = true := bne_iff_ne.mpr c31
               obtain rfl := Option.some.inj H
               go_enter Tryz.func73, Tryz.ntmps73
               go_wp2
               go_ret
               exact ⟨by (rfl), by repeat (exact Drawn0.refl _)⟩
   · rw [if_neg c22] at H
     have c22b0 : decide (97 ≤ a0) = false := decide_eq_false c22
     clear c22
     by_cases c32 : a0 ≥ 48
     · rw [if_pos c32] at H
       have c32b0 : decide (48 ≤ a0) = true := decide_eq_true c32
       clear c32
       by_cases c33 : a0 ≤ 57
       · rw [if_pos c33] at H
         have c33b0 : decide (a0 ≤ 57) = true := decide_eq_true c33
         clear c33
         obtain rfl := Option.some.inj H
         go_enter Tryz.func73, Tryz.ntmps73
         go_wp2
         go_ret
         exact ⟨by (rfl), by repeat (exact Drawn0.refl _)⟩
       · rw [if_neg c33] at H
         have c33b0 : decide (a0 ≤ 57) = false := decide_eq_false c33
         clear c33
         by_cases c34 : a0 = 45
         · rw [if_pos c34] at H
           have c34b0 : (a0 == 45) = true := beq_iff_eq.mpr c34
           have c34b1 : (a0 != 45) = false := bne_eq_false_iff_eq.mpr c34
           clear c34
           obtain rfl := Option.some.inj H
           go_enter Tryz.func73, Tryz.ntmps73
           go_wp2
           go_ret
           exact ⟨by (rfl), by repeat (exact Drawn0.refl _)⟩
         · rw [if_neg c34] at H
           have c34b0 : (a0 == 45) = false := beq_eq_false_iff_ne.mpr c34
           have c34b1 : (a0 != 45) = true := bne_iff_ne.mpr c34
           by_cases c35 : a0 = 46
           · rw [if_pos c35] at H
             have c35b0 : (a0 == 46) = true := beq_iff_eq.mpr c35
             have c35b1 : (a0 != 46) = false := bne_eq_false_iff_eq.mpr c35
             clear c35
             obtain rfl := Option.some.inj H
             go_enter Tryz.func73, Tryz.ntmps73
             go_wp2
             go_ret
             exact ⟨by (rfl), by repeat (exact Drawn0.refl _)⟩
           · rw [if_neg c35] at H
             have c35b0 : (a0 == 46) = false := beq_eq_false_iff_ne.mpr c35
             have c35b1 : (a0 != 46) = true := bne_iff_ne.mpr c35
             by_cases c36 : a0 = 95
             · rw [if_pos c36] at H
               have c36b0 : (a0 == 95) = true := beq_iff_eq.mpr c36
               have c36b1 : (a0 != 95) = false := bne_eq_false_iff_eq.mpr c36
               clear c36
               obtain rfl := Option.some.inj H
               go_enter Tryz.func73, Tryz.ntmps73
               go_wp2
               go_ret
               exact ⟨by (rfl), by repeat (exact Drawn0.refl _)⟩
             · rw [if_neg c36] at H
               have c36b0 : (a0 == 95) = false := beq_eq_false_iff_ne.mpr c36
               have c36b1 : (a0 != 95) = true := bne_iff_ne.mpr c36
               obtain rfl := Option.some.inj H
               go_enter Tryz.func73, Tryz.ntmps73
               go_wp2
               go_ret
               exact ⟨by (rfl), by repeat (exact Drawn0.refl _)⟩
     · rw [if_neg c32] at H
       have c32b0 : decide (48 ≤ a0) = false := decide_eq_false c32
       clear c32
       by_cases c37 : a0 = 45
       · rw [if_pos c37] at H
         have c37b0 : (a0 == 45) = true := beq_iff_eq.mpr c37
         have c37b1 : (a0 != 45) = false := bne_eq_false_iff_eq.mpr c37
         clear c37
         obtain rfl := Option.some.inj H
         go_enter Tryz.func73, Tryz.ntmps73
         go_wp2
         go_ret
         exact ⟨by (rfl), by repeat (exact Drawn0.refl _)⟩
       · rw [if_neg c37] at H
         have c37b0 : (a0 == 45) = false := beq_eq_false_iff_ne.mpr c37
         have c37b1 : (a0 != 45) = true := bne_iff_ne.mpr c37
         by_cases c38 : a0 = 46
         · rw [if_pos c38] at H
           have c38b0 : (a0 == 46) = true := beq_iff_eq.mpr c38
           have c38b1 : (a0 != 46) = false := bne_eq_false_iff_eq.mpr c38
           clear c38
           obtain rfl := Option.some.inj H
           go_enter Tryz.func73, Tryz.ntmps73
           go_wp2
           go_ret
           exact ⟨by (rfl), by repeat (exact Drawn0.refl _)⟩
         · rw [if_neg c38] at H
           have c38b0 : (a0 == 46) = false := beq_eq_false_iff_ne.mpr c38
           have c38b1 : (a0 != 46) = true := bne_iff_ne.mpr c38
           by_cases c39 : a0 = 95
           · rw [if_pos c39] at H
             have c39b0 : (a0 == 95) = true := beq_iff_eq.mpr c39
             have c39b1 : (a0 != 95) = false := bne_eq_false_iff_eq.mpr c39
             clear c39
             obtain rfl := Option.some.inj H
             go_enter Tryz.func73, Tryz.ntmps73
             go_wp2
             go_ret
             exact ⟨by (rfl), by repeat (exact Drawn0.refl _)⟩
           · rw [if_neg c39] at H
             have c39b0 : (a0 == 95) = false := beq_eq_false_iff_ne.mpr c39
             have c39b1 : (a0 != 95) = true := bne_iff_ne.mpr c39
             obtain rfl := Option.some.inj H
             go_enter Tryz.func73, Tryz.ntmps73
             go_wp2
             go_ret
             exact ⟨by (rfl), by repeat (exact Drawn0.refl _)⟩
end Go.Proofs.YtmimipgmhgalaaaGreatDoor.PAll
end
section
namespace Go.Proofs.YtmimipgmhgalaaaGreatDoor.PAll
open Go.RowKit Go.Proofs.YtmimipgmhgalaaaGreatDoorW.PrintWords Go.Proofs.YtmimipgmhgalaaaGreatDoorW.PrintLast Go.Proofs.YtmimipgmhgalaaaGreatDoorW.PrintMore
attribute [local go_sem] max2_int min2_int max_two min_two max_three min_three max_four min_four
set_option linter.unusedVariables false
set_option linter.unusedSimpArgs false
attribute [local go_sem] IntKind.wrap_u8
def wicketref03_Escape.l0 : Nat → ByteArray → List Int → ByteArray → Int → Option (ByteArray)
 | 0, _, _, _, _ => none
 | k + 1, x0, x3, x4, x5 => if x5 < (x0.size : Int) then (if 0 ≤ x5 then ((wicketref03_plain.f (bt x0 x5)).bind fun t463 => (if t463 = true then (if x3.length < 140737488355328 then (wicketref03_Escape.l0 k x0 (x3 ++ [bt x0 x5]) x4 (wrap64 (x5 + 1))) else (none)) else (if (bt x0 x5) = 32 then (if x3.length < 140737488355328 then (wicketref03_Escape.l0 k x0 (x3 ++ [43]) x4 (wrap64 (x5 + 1))) else (none)) else (if 0 ≤ ((Int.tdiv (bt x0 x5) 16) % 256) then (if ((Int.tdiv (bt x0 x5) 16) % 256) < (x4.size : Int) then (if 0 ≤ (Int.tmod (bt x0 x5) 16) then (if (Int.tmod (bt x0 x5) 16) < (x4.size : Int) then ((some (([37, bt x4 ((Int.tdiv (bt x0 x5) 16) % 256), bt x4 (Int.tmod (bt x0 x5) 16)] : List Int) : List Int)).bind fun y470 => (if x3.length + y470.length < 140737488355328 then (wicketref03_Escape.l0 k x0 (x3 ++ y470) x4 (wrap64 (x5 + 1))) else (none))) else (none)) else (none)) else (none)) else (none))))) else (none)) else (some (strOfNums x3))
def wicketref03_Escape.f (k : Nat) (a0 : ByteArray) : Option (ByteArray) := wicketref03_Escape.l0 k a0 ([] : List Int) (⟨#[48, 49, 50, 51, 52, 53, 54, 55, 56, 57, 65, 66, 67, 68, 69, 70]⟩ : ByteArray) 0
def wicketref03_Escape.T7 : Bool × List (List Nat × List Nat) := (true, [([], []), ([], []), ([], []), ([2], [2]), ([1, 3], [1, 3]), ([], []), ([], []), ([6], [6]), ([5, 7], [5, 7]), ([4, 8], [4, 8]), ([0, 9], [0, 9]), ([10, 10, 0, 1, 2, 3, 4, 5, 6, 7, 8, 9, 10], [0, 10])])
def wicketref03_Escape.B7 : List Nat := [0, 0, 0, 4, 14, 0, 0, 64, 224, 510, 1023, 2047]
theorem wicketref03_Escape.tab7 : rtab .any (opsOf Tryz.f41 7) = wicketref03_Escape.T7 := by kernel_rfl
theorem wicketref03_Escape.bits7 : waitsOk wicketref03_Escape.T7.2 wicketref03_Escape.B7 = true := by kernel_rfl
set_option maxHeartbeats 8000000 in
set_option maxRecDepth 100000 in
theorem wicketref03_Escape.calls (k : Nat) (a0 : ByteArray) (r : ByteArray) (w : World) (h : wicketref03_Escape.f k a0 = some r) :
 Calls Tryz.prog 41 #[.string a0] w fun e w' => e = .returned (.string r) ∧ Below w.heap.size w w' := by
 have HB := Aside0.mk (Below.refl w.heap.size w)
 have H : (wicketref03_Escape.l0 k a0 ([] : List Int) (⟨#[48, 49, 50, 51, 52, 53, 54, 55, 56, 57, 65, 66, 67, 68, 69, 70]⟩ : ByteArray) 0) = some r := h
 clear h
 have H' := Aside0.mk H
 clear H
 go_enter Tryz.func41, Tryz.ntmps41
 go_wp2
 go_loopg [3, 5] k (fun kq v3 v5 w' => ∃ (x3_1 : List Int) (x5_1 : Int), v5 = .int .i64 x5_1 ∧ Aside0 (wicketref03_Escape.l0 kq a0 x3_1 (⟨#[48, 49, 50, 51, 52, 53, 54, 55, 56, 57, 65, 66, 67, 68, 69, 70]⟩ : ByteArray) x5_1 = some r) ∧ Aside0 (kq ≤ k) ∧ Aside0 (Kd.R (Kd.int .u8) 5 w' w.heap.size (fun _ => True) v3 x3_1) ∧ Aside0 (Below w.heap.size w w'))
 case atStart => exact ⟨(([] : List Int)), (0), rfl, H', ⟨Nat.le_refl _⟩, ⟨by (exact Kd.R_nil _ _ _ _ _)⟩, ⟨HB.out⟩⟩
 case round =>
  clear H'
  obtain ⟨x3_1, x5_1, rfl, HA, HK1, HO_3, HB⟩ := hrel
  cases gk with
  | zero => exact absurd HA.out (by simp [wicketref03_Escape.l0])
  | succ k1 =>
   have H := HA.out
   clear HA
   simp only [wicketref03_Escape.l0] at H
   by_cases c2 : x5_1 < (a0.size : Int)
   · rw [if_pos c2] at H
     have c2b0 : decide (x5_1 < (a0.size : Int)) = true := decide_eq_true c2
     clear c2
     by_cases c3 : 0 ≤ x5_1
     · rw [if_pos c3] at H
       have c3b0 : decide (0 ≤ x5_1) = true := decide_eq_true c3
       clear c3
       replace H := Option.bind_eq_some_iff.mp H
       obtain ⟨t463, A50, H⟩ := H
       replace H : (if t463 = true then (if x3_1.length < 140737488355328 then (wicketref03_Escape.l0 k1 a0 (x3_1 ++ [bt a0 x5_1]) (⟨#[48, 49, 50, 51, 52, 53, 54, 55, 56, 57, 65, 66, 67, 68, 69, 70]⟩ : ByteArray) (wrap64 (x5_1 + 1))) else (none)) else (if (bt a0 x5_1) = 32 then (if x3_1.length < 140737488355328 then (wicketref03_Escape.l0 k1 a0 (x3_1 ++ [43]) (⟨#[48, 49, 50, 51, 52, 53, 54, 55, 56, 57, 65, 66, 67, 68, 69, 70]⟩ : ByteArray) (wrap64 (x5_1 + 1))) else (none)) else (if 0 ≤ ((Int.tdiv (bt a0 x5_1) 16) % 256) then (if ((Int.tdiv (bt a0 x5_1) 16) % 256) < ((⟨#[48, 49, 50, 51, 52, 53, 54, 55, 56, 57, 65, 66, 67, 68, 69, 70]⟩ : ByteArray).size : Int) then (if 0 ≤ (Int.tmod (bt a0 x5_1) 16) then (if (Int.tmod (bt a0 x5_1) 16) < ((⟨#[48, 49, 50, 51, 52, 53, 54, 55, 56, 57, 65, 66, 67, 68, 69, 70]⟩ : ByteArray).size : Int) then ((some (([37, bt (⟨#[48, 49, 50, 51, 52, 53, 54, 55, 56, 57, 65, 66, 67, 68, 69, 70]⟩ : ByteArray) ((Int.tdiv (bt a0 x5_1) 16) % 256), bt (⟨#[48, 49, 50, 51, 52, 53, 54, 55, 56, 57, 65, 66, 67, 68, 69, 70]⟩ : ByteArray) (Int.tmod (bt a0 x5_1) 16)] : List Int) : List Int)).bind fun y470 => (if x3_1.length + y470.length < 140737488355328 then (wicketref03_Escape.l0 k1 a0 (x3_1 ++ y470) (⟨#[48, 49, 50, 51, 52, 53, 54, 55, 56, 57, 65, 66, 67, 68, 69, 70]⟩ : ByteArray) (wrap64 (x5_1 + 1))) else (none))) else (none)) else (none)) else (none)) else (none)))) = some r := H
       have A5 := Aside0.mk A50
       clear A50
       by_cases c6 : t463 = true
       · subst c6
         have H1 : (if x3_1.length < 140737488355328 then (wicketref03_Escape.l0 k1 a0 (x3_1 ++ [bt a0 x5_1]) (⟨#[48, 49, 50, 51, 52, 53, 54, 55, 56, 57, 65, 66, 67, 68, 69, 70]⟩ : ByteArray) (wrap64 (x5_1 + 1))) else (none)) = some r := by rw [if_pos rfl] at H; exact H
         clear H
         have H := H1
         clear H1
         by_cases c7 : x3_1.length < 140737488355328
         · rw [if_pos c7] at H
           have LMc7 := Aside0.mk c7
           clear c7
           obtain ⟨y464, hy464⟩ : ∃ y_ : List Int, y_ = (x3_1 ++ [bt a0 x5_1]) := ⟨_, rfl⟩
           replace H : (wicketref03_Escape.l0 k1 a0 y464 (⟨#[48, 49, 50, 51, 52, 53, 54, 55, 56, 57, 65, 66, 67, 68, 69, 70]⟩ : ByteArray) (wrap64 (x5_1 + 1))) = some r := by (rw [hy464]; with_reducible exact H)
           have Ny464 := Aside0.mk hy464
           clear hy464
           have H' := Aside0.mk H
           clear H
           have p4 : 0 ≤ (x5_1 : Int) := of_decide_eq_true (by assumption)
           have q4 : x5_1 < (a0.size : Int) := of_decide_eq_true (by assumption)
           have hx4 := bt_at a0 x5_1
           replace p4 := eq_true p4
           replace q4 := eq_true q4
           go_wp2_with (first | ((with_reducible refine gate_callee (f := 73) rfl ?_); refine goesL_ (some 29) rfl rfl Tryz.func73 (by kernel_rfl) rfl #[.int .u8 (bt a0 x5_1)] rfl (by ((try simp only [List.map_toArray, List.map_cons, List.map_nil]); (rfl))) ?_; (with_reducible refine (wicketref03_plain.calls (bt a0 x5_1) true _ A5.out).mono ?_); rintro e w' ⟨rfl, ⟨nd, rfl⟩⟩; refine ⟨_, rfl, ?_⟩) | ((with_reducible refine gate_builtin (b := .append) (xs := #[.tmp 30, .tmp 32]) rfl ?_); at_builtin; refine Kd.R_append (Kd.int .u8) (w0 := w) w.heap.size rfl (.tmp 30) (.tmp 32) 79 5 (.int .u8 0) 1 rfl Tryz.underlying79 info5 rfl (by decide) (by omega) u3 x3_1 (bt a0 x5_1) [.int .u8 (bt a0 x5_1)] (fun _ => True) (fun _ => False) rfl rfl ?aP (fun _ hk => hk.elim) ?aF ?aO ?aB ?aS ?aL ?_; (case aP => exact rfl); (case aB => exact (by (repeat (with_reducible first | exact HB.out | apply pw_below_drewN)))); (case aF => exact (fun _ _ => trivial)); (case aO => exact (by ((with_reducible repeat (apply Kd.R_drewN)); exact HO_3.out))); (case aS => exact (below_size (by (repeat (with_reducible first | exact HB.out | apply pw_below_drewN))))); (case aL => have := LMc7.out; omega); intro v465 w8 ho hb hg hat; rw [← Ny464.out] at ho; have n0_ := Aside0.mk hb; have n1_ := Aside0.mk ho; clear HB HO_3; have HB := n0_; have HO466 := n1_; clear n0_ n1_; clear ho hb hg hat))
           go_roundg k1
           case measure => have := HK1.out; omega
           case rel => exact ⟨(y464), (wrap64 (x5_1 + 1)), rfl, H', ⟨by have := HK1.out; omega⟩, ⟨HO466.out⟩, ⟨HB.out⟩⟩
         · rw [if_neg c7] at H
           exact absurd H (by simp)
       · replace c6 := Bool.eq_false_iff.mpr c6
         subst c6
         have H1 : (if (bt a0 x5_1) = 32 then (if x3_1.length < 140737488355328 then (wicketref03_Escape.l0 k1 a0 (x3_1 ++ [43]) (⟨#[48, 49, 50, 51, 52, 53, 54, 55, 56, 57, 65, 66, 67, 68, 69, 70]⟩ : ByteArray) (wrap64 (x5_1 + 1))) else (none)) else (if 0 ≤ ((Int.tdiv (bt a0 x5_1) 16) % 256) then (if ((Int.tdiv (bt a0 x5_1) 16) % 256) < ((⟨#[48, 49, 50, 51, 52, 53, 54, 55, 56, 57, 65, 66, 67, 68, 69, 70]⟩ : ByteArray).size : Int) then (if 0 ≤ (Int.tmod (bt a0 x5_1) 16) then (if (Int.tmod (bt a0 x5_1) 16) < ((⟨#[48, 49, 50, 51, 52, 53, 54, 55, 56, 57, 65, 66, 67, 68, 69, 70]⟩ : ByteArray).size : Int) then ((some (([37, bt (⟨#[48, 49, 50, 51, 52, 53, 54, 55, 56, 57, 65, 66, 67, 68, 69, 70]⟩ : ByteArray) ((Int.tdiv (bt a0 x5_1) 16) % 256), bt (⟨#[48, 49, 50, 51, 52, 53, 54, 55, 56, 57, 65, 66, 67, 68, 69, 70]⟩ : ByteArray) (Int.tmod (bt a0 x5_1) 16)] : List Int) : List Int)).bind fun y470 => (if x3_1.length + y470.length < 140737488355328 then (wicketref03_Escape.l0 k1 a0 (x3_1 ++ y470) (⟨#[48, 49, 50, 51, 52, 53, 54, 55, 56, 57, 65, 66, 67, 68, 69, 70]⟩ : ByteArray) (wrap64 (x5_1 + 1))) else (none))) else (none)) else (none)) else (none)) else (none))) = some r := by rw [if_neg (show ¬ (false = true) by decide)] at H; exact H
         clear H
         have H := H1
         clear H1
         by_cases c9 : (bt a0 x5_1) = 32
         · rw [if_pos c9] at H
           have c9b0 : ((bt a0 x5_1) == 32) = true := beq_iff_eq.mpr c9
           have c9b1 : ((bt a0 x5_1) != 32) = false := bne_eq_false_iff_eq.mpr c9
           clear c9
           by_cases c10 : x3_1.length < 140737488355328
           · rw [if_pos c10] at H
             have LMc10 := Aside0.mk c10
             clear c10
             obtain ⟨y467, hy467⟩ : ∃ y_ : List Int, y_ = (x3_1 ++ [43]) := ⟨_, rfl⟩
             replace H : (wicketref03_Escape.l0 k1 a0 y467 (⟨#[48, 49, 50, 51, 52, 53, 54, 55, 56, 57, 65, 66, 67, 68, 69, 70]⟩ : ByteArray) (wrap64 (x5_1 + 1))) = some r := by (rw [hy467]; with_reducible exact H)
             have Ny467 := Aside0.mk hy467
             clear hy467
             have H' := Aside0.mk H
             clear H
             have p4 : 0 ≤ (x5_1 : Int) := of_decide_eq_true (by assumption)
             have q4 : x5_1 < (a0.size : Int) := of_decide_eq_true (by assumption)
             have hx4 := bt_at a0 x5_1
             replace p4 := eq_true p4
             replace q4 := eq_true q4
             go_wp2_with (first | ((with_reducible refine gate_callee (f := 73) rfl ?_); refine goesL_ (some 29) rfl rfl Tryz.func73 (by kernel_rfl) rfl #[.int .u8 (bt a0 x5_1)] rfl (by ((try simp only [List.map_toArray, List.map_cons, List.map_nil]); (rfl))) ?_; (with_reducible refine (wicketref03_plain.calls (bt a0 x5_1) false _ A5.out).mono ?_); rintro e w' ⟨rfl, ⟨nd, rfl⟩⟩; refine ⟨_, rfl, ?_⟩) | ((with_reducible refine gate_builtin (b := .append) (xs := #[.tmp 37, .tmp 38]) rfl ?_); at_builtin; refine Kd.R_append (Kd.int .u8) (w0 := w) w.heap.size rfl (.tmp 37) (.tmp 38) 79 5 (.int .u8 0) 1 rfl Tryz.underlying79 info5 rfl (by decide) (by omega) u3 x3_1 43 [.int .u8 43] (fun _ => True) (fun _ => False) rfl rfl ?aP (fun _ hk => hk.elim) ?aF ?aO ?aB ?aS ?aL ?_; (case aP => exact rfl); (case aB => exact (by (repeat (with_reducible first | exact HB.out | apply pw_below_drewN)))); (case aF => exact (fun _ _ => trivial)); (case aO => exact (by ((with_reducible repeat (apply Kd.R_drewN)); exact HO_3.out))); (case aS => exact (below_size (by (repeat (with_reducible first | exact HB.out | apply pw_below_drewN))))); (case aL => have := LMc10.out; omega); intro v468 w11 ho hb hg hat; rw [← Ny467.out] at ho; have n0_ := Aside0.mk hb; have n1_ := Aside0.mk ho; clear HB HO_3; have HB := n0_; have HO469 := n1_; clear n0_ n1_; clear ho hb hg hat))
             go_roundg k1
             case measure => have := HK1.out; omega
             case rel => exact ⟨(y467), (wrap64 (x5_1 + 1)), rfl, H', ⟨by have := HK1.out; omega⟩, ⟨HO469.out⟩, ⟨HB.out⟩⟩
           · rw [if_neg c10] at H
             exact absurd H (by simp)
         · rw [if_neg c9] at H
           have c9b0 : ((bt a0 x5_1) == 32) = false := beq_eq_false_iff_ne.mpr c9
           have c9b1 : ((bt a0 x5_1) != 32) = true := bne_iff_ne.mpr c9
           obtain ⟨ji12, hji12⟩ : ∃ j_ : Int, ((Int.tdiv (bt a0 x5_1) 16) % 256) = j_ := ⟨_, rfl⟩
           replace H : (if 0 ≤ (ji12) then (if (ji12) < ((⟨#[48, 49, 50, 51, 52, 53, 54, 55, 56, 57, 65, 66, 67, 68, 69, 70]⟩ : ByteArray).size : Int) then (if 0 ≤ (Int.tmod (bt a0 x5_1) 16) then (if (Int.tmod (bt a0 x5_1) 16) < ((⟨#[48, 49, 50, 51, 52, 53, 54, 55, 56, 57, 65, 66, 67, 68, 69, 70]⟩ : ByteArray).size : Int) then ((some (([37, bt (⟨#[48, 49, 50, 51, 52, 53, 54, 55, 56, 57, 65, 66, 67, 68, 69, 70]⟩ : ByteArray) (ji12), bt (⟨#[48, 49, 50, 51, 52, 53, 54, 55, 56, 57, 65, 66, 67, 68, 69, 70]⟩ : ByteArray) (Int.tmod (bt a0 x5_1) 16)] : List Int) : List Int)).bind fun y470 => (if x3_1.length + y470.length < 140737488355328 then (wicketref03_Escape.l0 k1 a0 (x3_1 ++ y470) (⟨#[48, 49, 50, 51, 52, 53, 54, 55, 56, 57, 65, 66, 67, 68, 69, 70]⟩ : ByteArray) (wrap64 (x5_1 + 1))) else (none))) else (none)) else (none)) else (none)) else (none)) = some r := by (rw [hji12] at H; exact H)
           by_cases c13 : 0 ≤ (ji12)
           · rw [if_pos c13] at H
             have c13b0 : decide (0 ≤ (ji12)) = true := decide_eq_true c13
             clear c13
             by_cases c14 : (ji12) < ((⟨#[48, 49, 50, 51, 52, 53, 54, 55, 56, 57, 65, 66, 67, 68, 69, 70]⟩ : ByteArray).size : Int)
             · rw [if_pos c14] at H
               have c14b0 : decide ((ji12) < ((⟨#[48, 49, 50, 51, 52, 53, 54, 55, 56, 57, 65, 66, 67, 68, 69, 70]⟩ : ByteArray).size : Int)) = true := decide_eq_true c14
               clear c14
               obtain ⟨ji16, hji16⟩ : ∃ j_ : Int, (Int.tmod (bt a0 x5_1) 16) = j_ := ⟨_, rfl⟩
               replace H : (if 0 ≤ (ji16) then (if (ji16) < ((⟨#[48, 49, 50, 51, 52, 53, 54, 55, 56, 57, 65, 66, 67, 68, 69, 70]⟩ : ByteArray).size : Int) then ((some (([37, bt (⟨#[48, 49, 50, 51, 52, 53, 54, 55, 56, 57, 65, 66, 67, 68, 69, 70]⟩ : ByteArray) (ji12), bt (⟨#[48, 49, 50, 51, 52, 53, 54, 55, 56, 57, 65, 66, 67, 68, 69, 70]⟩ : ByteArray) (ji16)] : List Int) : List Int)).bind fun y470 => (if x3_1.length + y470.length < 140737488355328 then (wicketref03_Escape.l0 k1 a0 (x3_1 ++ y470) (⟨#[48, 49, 50, 51, 52, 53, 54, 55, 56, 57, 65, 66, 67, 68, 69, 70]⟩ : ByteArray) (wrap64 (x5_1 + 1))) else (none))) else (none)) else (none)) = some r := by (rw [hji16] at H; exact H)
               by_cases c17 : 0 ≤ (ji16)
               · rw [if_pos c17] at H
                 have c17b0 : decide (0 ≤ (ji16)) = true := decide_eq_true c17
                 clear c17
                 by_cases c18 : (ji16) < ((⟨#[48, 49, 50, 51, 52, 53, 54, 55, 56, 57, 65, 66, 67, 68, 69, 70]⟩ : ByteArray).size : Int)
                 · rw [if_pos c18] at H
                   have c18b0 : decide ((ji16) < ((⟨#[48, 49, 50, 51, 52, 53, 54, 55, 56, 57, 65, 66, 67, 68, 69, 70]⟩ : ByteArray).size : Int)) = true := decide_eq_true c18
                   clear c18
                   obtain ⟨y470, hy470⟩ : ∃ y_ : List Int, y_ = (([37, bt (⟨#[48, 49, 50, 51, 52, 53, 54, 55, 56, 57, 65, 66, 67, 68, 69, 70]⟩ : ByteArray) (ji12), bt (⟨#[48, 49, 50, 51, 52, 53, 54, 55, 56, 57, 65, 66, 67, 68, 69, 70]⟩ : ByteArray) (ji16)] : List Int)) := ⟨_, rfl⟩
                   replace H : (if x3_1.length + y470.length < 140737488355328 then (wicketref03_Escape.l0 k1 a0 (x3_1 ++ y470) (⟨#[48, 49, 50, 51, 52, 53, 54, 55, 56, 57, 65, 66, 67, 68, 69, 70]⟩ : ByteArray) (wrap64 (x5_1 + 1))) else (none)) = some r := by (have H2_ := (Option.bind_some _ _).symm.trans H; rw [hy470]; with_reducible exact H2_)
                   have Ny470 := Aside0.mk hy470
                   clear hy470
                   by_cases c20 : x3_1.length + y470.length < 140737488355328
                   · rw [if_pos c20] at H
                     have LMc20 := Aside0.mk c20
                     clear c20
                     obtain ⟨y473, hy473⟩ : ∃ y_ : List Int, y_ = (x3_1 ++ y470) := ⟨_, rfl⟩
                     replace H : (wicketref03_Escape.l0 k1 a0 y473 (⟨#[48, 49, 50, 51, 52, 53, 54, 55, 56, 57, 65, 66, 67, 68, 69, 70]⟩ : ByteArray) (wrap64 (x5_1 + 1))) = some r := by (rw [hy473]; with_reducible exact H)
                     have Ny473 := Aside0.mk hy473
                     clear hy473
                     have H' := Aside0.mk H
                     clear H
                     have p4 : 0 ≤ (x5_1 : Int) := of_decide_eq_true (by assumption)
                     have q4 : x5_1 < (a0.size : Int) := of_decide_eq_true (by assumption)
                     have hx4 := bt_at a0 x5_1
                     replace p4 := eq_true p4
                     replace q4 := eq_true q4
                     try go_wp2_with (first | ((with_reducible refine gate_callee (f := 73) rfl ?_); refine goesL_ (some 29) rfl rfl Tryz.func73 (by kernel_rfl) rfl #[.int .u8 (bt a0 x5_1)] rfl (by ((try simp only [List.map_toArray, List.map_cons, List.map_nil]); (rfl))) ?_; (with_reducible refine (wicketref03_plain.calls (bt a0 x5_1) false _ A5.out).mono ?_); rintro e w' ⟨rfl, ⟨nd, rfl⟩⟩; refine ⟨_, rfl, ?_⟩))
                     (try (rw [drewN_self wr]; generalize hq_ : World.drewN wr _ = wr; have n0_ : Aside0 (Kd.R (Kd.int .u8) 5 wr w.heap.size (fun _ => True) u3 x3_1) := ⟨by rw [← hq_]; exact (by ((with_reducible repeat (apply Kd.R_drewN)); exact HO_3.out))⟩; have n1_ : Aside0 (Below w.heap.size w wr) := ⟨by rw [← hq_]; exact (by (repeat (with_reducible first | exact HB.out | apply pw_below_drewN)))⟩; clear HO_3 HB hq_; have HO_3 := n0_; have HB := n1_; clear n0_ n1_))
                     have n0_ := Aside0.mk (Kd.R_drew HO_3.out)
                     have n1_ := Aside0.mk (below_drew1 HB.out)
                     clear HO_3 HB
                     have HO_3 := n0_
                     have HB := n1_
                     clear n0_ n1_
                     have p15 : 0 ≤ ((ji12) : Int) := of_decide_eq_true (by assumption)
                     have q15 : (ji12) < (16 : Int) := of_decide_eq_true (by assumption)
                     have hx15 := bt_at (⟨#[48, 49, 50, 51, 52, 53, 54, 55, 56, 57, 65, 66, 67, 68, 69, 70]⟩ : ByteArray) (ji12)
                     replace p15 := eq_true p15
                     replace q15 := eq_true q15
                     have p19 : 0 ≤ ((ji16) : Int) := of_decide_eq_true (by assumption)
                     have q19 : (ji16) < (16 : Int) := of_decide_eq_true (by assumption)
                     have hx19 := bt_at (⟨#[48, 49, 50, 51, 52, 53, 54, 55, 56, 57, 65, 66, 67, 68, 69, 70]⟩ : ByteArray) (ji16)
                     replace p19 := eq_true p19
                     replace q19 := eq_true q19
                     refine start_ (n := 12) (S := fun w' => True) (ds := []) #[false, false, false, false, false, false, false, false, false, false, false, false] (by kernel_rfl) rfl rfl trivial (fun hHeld => ?_); refine with_tabW wicketref03_Escape.tab7 wicketref03_Escape.bits7 (fun HT_ HW_ => ?_)
                     generalize wr.drew = w21 at HO_3 HB hHeld ⊢
                     refine pure_ (i := 0) (N := some 16) (v := ?_) (a' := ?_) #[true, false, false, false, false, false, false, false, false, false, false, false] rfl rfl (any_of HT_.out (by kernel_rfl)) (fun _ _ _ h => h) (Or.inl ⟨by rfl, ?_⟩) ?_ ?_
                     rotate_left
                     · intro w'
                       go_simp
                       with_reducible rfl
                     rotate_left
                     · simp only [Act.put, List.setIfInBounds_toArray, List.set_cons_zero, List.set_cons_succ, i64_w, i32_w]
                       rfl
                     refine pure_ (i := 1) (N := some 17) (v := ?_) (a' := ?_) #[true, true, false, false, false, false, false, false, false, false, false, false] rfl rfl (any_of HT_.out (by kernel_rfl)) (fun _ _ _ h => h) (Or.inl ⟨by rfl, ?_⟩) ?_ ?_
                     rotate_left
                     · intro w'
                       go_simp
                       with_reducible rfl
                     rotate_left
                     · simp only [Act.put, List.setIfInBounds_toArray, List.set_cons_zero, List.set_cons_succ, i64_w, i32_w]
                       rfl
                     refine pure_ (i := 2) (N := some 18) (v := ?_) (a' := ?_) #[true, true, true, false, false, false, false, false, false, false, false, false] rfl rfl (any_of HT_.out (by kernel_rfl)) (fun _ _ _ h => h) (Or.inl ⟨by rfl, ?_⟩) ?_ ?_
                     rotate_left
                     · intro w'
                       go_simp
                       with_reducible rfl
                     rotate_left
                     · simp only [Act.put, List.setIfInBounds_toArray, List.set_cons_zero, List.set_cons_succ, i64_w, i32_w]
                       rfl
                     refine pure_ (i := 3) (N := some 19) (v := ?_) (a' := ?_) #[true, true, true, true, false, false, false, false, false, false, false, false] rfl rfl (any_of HT_.out (by kernel_rfl)) (fun _ _ _ h => h) (Or.inl ⟨by rfl, ?_⟩) ?_ ?_
                     rotate_left
                     · intro w'
                       go_simp
                       with_reducible rfl
                     rotate_left
                     · simp only [Act.put, List.setIfInBounds_toArray, List.set_cons_zero, List.set_cons_succ, i64_w, i32_w]
                       rfl
                     refine pure_ (i := 5) (N := some 21) (v := ?_) (a' := ?_) #[true, true, true, true, false, true, false, false, false, false, false, false] rfl rfl (any_of HT_.out (by kernel_rfl)) (fun _ _ _ h => h) (Or.inl ⟨by rfl, ?_⟩) ?_ ?_
                     rotate_left
                     · intro w'
                       go_simp
                       with_reducible rfl
                     rotate_left
                     · simp only [Act.put, List.setIfInBounds_toArray, List.set_cons_zero, List.set_cons_succ, i64_w, i32_w]
                       rfl
                     refine pure_ (i := 6) (N := some 22) (v := ?_) (a' := ?_) #[true, true, true, true, false, true, true, false, false, false, false, false] rfl rfl (any_of HT_.out (by kernel_rfl)) (fun _ _ _ h => h) (Or.inl ⟨by rfl, ?_⟩) ?_ ?_
                     rotate_left
                     · intro w'
                       go_simp
                       with_reducible rfl
                     rotate_left
                     · simp only [Act.put, List.setIfInBounds_toArray, List.set_cons_zero, List.set_cons_succ, i64_w, i32_w]
                       rfl
                     refine pure_ (i := 7) (N := some 23) (v := ?_) (a' := ?_) #[true, true, true, true, false, true, true, true, false, false, false, false] rfl rfl (any_of HT_.out (by kernel_rfl)) (fun _ _ _ h => h) (Or.inl ⟨by rfl, ?_⟩) ?_ ?_
                     rotate_left
                     · intro w'
                       go_simp
                       with_reducible rfl
                     rotate_left
                     · simp only [Act.put, List.setIfInBounds_toArray, List.set_cons_zero, List.set_cons_succ, i64_w, i32_w]
                       rfl
                     refine take_ (i := 4) (N := some 20) (v := ?_) (a' := ?_) #[true, true, true, true, true, true, true, true, false, false, false, false] rfl rfl (take_ofW HT_.out HW_.out (by kernel_rfl)) (fun _ _ _ h => h) (Or.inl ⟨by rfl, ?_⟩) hHeld ?_ ?_
                     rotate_left
                     · intro w' _
                       go_simp
                       with_reducible rfl
                     rotate_left
                     · simp only [Act.put, List.setIfInBounds_toArray, List.set_cons_zero, List.set_cons_succ, i64_w, i32_w]
                       rfl
                     refine take_ (i := 8) (N := some 24) (v := ?_) (a' := ?_) #[true, true, true, true, true, true, true, true, true, false, false, false] rfl rfl (take_ofW HT_.out HW_.out (by kernel_rfl)) (fun _ _ _ h => h) (Or.inl ⟨by rfl, ?_⟩) hHeld ?_ ?_
                     rotate_left
                     · intro w' _
                       go_simp
                       with_reducible rfl
                     rotate_left
                     · simp only [Act.put, List.setIfInBounds_toArray, List.set_cons_zero, List.set_cons_succ, i64_w, i32_w]
                       rfl
                     refine one_ (i := 9) (N := some 25) #[true, true, true, true, true, true, true, true, true, true, false, false] rfl rfl (one_of HT_.out (by kernel_rfl)) (by decide) (fun K hK => ?_)
                     refine Kd.R_lit_step (Kd.int .u8) _ 5 ?hg (N := 25) ?hd (xs := ([37, bt (⟨#[48, 49, 50, 51, 52, 53, 54, 55, 56, 57, 65, 66, 67, 68, 69, 70]⟩ : ByteArray) (ji12), bt (⟨#[48, 49, 50, 51, 52, 53, 54, 55, 56, 57, 65, 66, 67, 68, 69, 70]⟩ : ByteArray) (ji16)] : List Int)) (inner := [.int .u8 37, .int .u8 (bt (⟨#[48, 49, 50, 51, 52, 53, 54, 55, 56, 57, 65, 66, 67, 68, 69, 70]⟩ : ByteArray) (ji12)), .int .u8 (bt (⟨#[48, 49, 50, 51, 52, 53, 54, 55, 56, 57, 65, 66, 67, 68, 69, 70]⟩ : ByteArray) (ji16))]) (ok := fun _ => True) (okp := fun _ => True) ?hr ?hp (fun _ hk => hk) trivial (Below.refl _ _) (Nat.le_refl _) (by simp) ?_; (case hd => rfl); (case hg => rfl); (case hr => (go_simp; done)); (case hp => exact (Reps.one (show Kd.M (Kd.int .u8) _ _ _ 37 [.int .u8 37] from rfl) (Reps.one (show Kd.M (Kd.int .u8) _ _ _ (bt (⟨#[48, 49, 50, 51, 52, 53, 54, 55, 56, 57, 65, 66, 67, 68, 69, 70]⟩ : ByteArray) (ji12)) [.int .u8 (bt (⟨#[48, 49, 50, 51, 52, 53, 54, 55, 56, 57, 65, 66, 67, 68, 69, 70]⟩ : ByteArray) (ji12))] from rfl) (Reps.one (show Kd.M (Kd.int .u8) _ _ _ (bt (⟨#[48, 49, 50, 51, 52, 53, 54, 55, 56, 57, 65, 66, 67, 68, 69, 70]⟩ : ByteArray) (ji16)) [.int .u8 (bt (⟨#[48, 49, 50, 51, 52, 53, 54, 55, 56, 57, 65, 66, 67, 68, 69, 70]⟩ : ByteArray) (ji16))] from rfl) (Reps.none _ _)))))
                     intro v471 w22 ho23 hb hg_ hnew_
                     clear hg_ hnew_
                     (rw [← Ny470.out] at ho23)
                     have n0_ := Aside0.mk (Kd.R_elder' HO_3.out (Kd.R_base ho23) hb)
                     have n1_ := Aside0.mk (Kd.R_lower (Kd.R_new' ho23 (Kd.R_lt HO_3.out)) (below_size HB.out))
                     have n2_ := Aside0.mk (below_step HB.out hb)
                     clear HO_3 HB
                     have HO_3 := n0_
                     have HO472 := n1_
                     have HB := n2_
                     clear n0_ n1_ n2_ hb ho23
                     obtain ⟨Ao25, co25, eo25⟩ := Kd.R_slice HO472.out
                     (subst eo25)
                     refine hK.out _ _ trivial (fun hHeld => ?_)
                     clear hK K
                     refine norm_ (a' := ?_) ?_ ?_
                     rotate_left
                     · show Act.put _ (some 25) _ = _
                       simp only [Act.put, List.setIfInBounds_toArray, List.set_cons_zero, List.set_cons_succ, i64_w, i32_w]
                       rfl
                     refine one_ (i := 10) (N := some 26) #[true, true, true, true, true, true, true, true, true, true, true, false] rfl rfl (one_of HT_.out (by kernel_rfl)) (by decide) (fun K hK => ?_)
                     refine Kd.R_append_rows_step (Kd.int .u8) (w0 := w) w.heap.size rfl (.tmp 16) (.tmp 25) 79 5 (.int .u8 0) 1 rfl Tryz.underlying79 info5 rfl (by decide) (by omega) u3 x3_1 y470 _ _ _ (fun k_ => some k_ ≠ (.slice Ao25 y470.length co25 : Value).ownBlock) (fun _ => False) rfl rfl ?aO ?aR (fun _ _ h => h) (fun _ h => h.elim) ?aF ?aB ?aS ?aL ?_
                     (case aR => repeat (exact (Kd.R_reads' HO472.out).2.2))
                     (case aB => exact HB.out)
                     (case aF => exact (fun k_ hk => Kd.fresh' (Kd.R_lt HO472.out) k_ hk))
                     (case aO => exact (by (with_reducible repeat (first | apply Kd.R_alloc  | apply Kd.R_drewN  | apply Kd.R_drew)); exact Kd.R_mono HO_3.out (fun _ hk => hk.2)))
                     (case aS => exact (below_size HB.out))
                     (case aL => have := LMc20.out; omega)
                     intro v474 w24 ho hb hg hat
                     rw [← Ny473.out] at ho
                     have n0_ := Aside0.mk (Kd.R_after (ok := (fun _ => True)) HO472.out hg hat)
                     have n1_ := Aside0.mk hb
                     have n2_ := Aside0.mk ho
                     clear HO472 HB HO_3
                     have HO472 := n0_
                     have HB := n1_
                     have HO475 := n2_
                     clear n0_ n1_ n2_ ho hb hg hat
                     refine hK.out _ _ trivial (fun hHeld => ?_)
                     clear hK K
                     refine norm_ (a' := ?_) ?_ ?_
                     rotate_left
                     · show Act.put _ (some 26) _ = _
                       simp only [Act.put, List.setIfInBounds_toArray, List.set_cons_zero, List.set_cons_succ, i64_w, i32_w]
                       rfl
                     refine pure_ (i := 11) (N := some 3) (v := ?_) (a' := ?_) #[true, true, true, true, true, true, true, true, true, true, true, true] rfl rfl (any_of HT_.out (by kernel_rfl)) (fun _ _ _ h => h) (Or.inl ⟨by rfl, ?_⟩) ?_ ?_
                     rotate_left
                     · intro w'
                       go_simp
                       with_reducible rfl
                     rotate_left
                     · simp only [Act.put, List.setIfInBounds_toArray, List.set_cons_zero, List.set_cons_succ, i64_w, i32_w]
                       rfl
                     refine done_ (done_of HT_.out (by kernel_rfl)) ?_
                     try go_wp2
                     go_roundg k1
                     case measure => have := HK1.out; omega
                     case rel => exact ⟨(y473), (wrap64 (x5_1 + 1)), rfl, H', ⟨by have := HK1.out; omega⟩, ⟨by (with_reducible repeat (first | apply Kd.R_alloc  | apply Kd.R_drewN  | apply Kd.R_drew)); exact Kd.R_mono HO475.out (fun _ hk => trivial)⟩, ⟨HB.out⟩⟩
                   · rw [if_neg c20] at H
                     exact absurd H (by simp)
                 · rw [if_neg c18] at H
                   exact absurd H (by simp)
               · rw [if_neg c17] at H
                 exact absurd H (by simp)
             · rw [if_neg c14] at H
               exact absurd H (by simp)
           · rw [if_neg c13] at H
             exact absurd H (by simp)
     · rw [if_neg c3] at H
       exact absurd H (by simp)
   · rw [if_neg c2] at H
     have c2b0 : decide (x5_1 < (a0.size : Int)) = false := decide_eq_false c2
     clear c2
     obtain rfl := Option.some.inj H
     have hcv26 := own_string (P := Tryz.prog) Tryz.underlying79 Tryz.underlying5 Tryz.underlying9 (Kd.own_of_R HO_3.out)
     go_wp2
     go_ret
     exact ⟨by (rfl), by (with_reducible exact HB.out)⟩
end Go.Proofs.YtmimipgmhgalaaaGreatDoor.PAll
end
