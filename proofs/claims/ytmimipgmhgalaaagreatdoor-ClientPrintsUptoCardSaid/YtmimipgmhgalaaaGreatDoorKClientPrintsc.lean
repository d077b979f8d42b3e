/-
  Part 3 of what the proof of ClientPrints leans on: words of the print, walks of functions and plain laws; put together by pack.py, a program of this session.
-/
import Derived.Lib.Hide
import Derived.Outline
import Derived.Deep.RegionWith
import Derived.Lib.LazyBuf
import Derived.Laws.CopyRow
import Derived.Test.YtmimipgmhgalaaaGreatDoorKClientPrintsb
section
namespace Go.Proofs.YtmimipgmhgalaaaGreatDoor.PAll
open Go.RowKit Go.Proofs.YtmimipgmhgalaaaGreatDoorW.PrintWords Go.Proofs.YtmimipgmhgalaaaGreatDoorW.PrintLast Go.Proofs.YtmimipgmhgalaaaGreatDoorW.PrintMore
attribute [local go_sem] max2_int min2_int max_two min_two max_three min_three max_four min_four
set_option linter.unusedVariables false
set_option linter.unusedSimpArgs false
mutual
def wicketref03_Scopes.l0 : Nat → ByteArray → List ByteArray → Int → Int → Option (List ByteArray × Int)
 | 0, _, _, _, _ => none
 | k + 1, x0, x4, x5, x6 => if x6 ≤ (x0.size : Int) then (if x6 < (x0.size : Int) then (if 0 ≤ x6 then (wicketref03_Scopes.j1 k x0 x4 x5 x6 ((bt x0 x6) != 32)) else (none)) else (wicketref03_Scopes.j1 k x0 x4 x5 x6 false)) else (if (x4.length : Int) > 32 then (some (([] : List ByteArray), 32)) else (some (x4, 0)))
def wicketref03_Scopes.j1 : Nat → ByteArray → List ByteArray → Int → Int → Bool → Option (List ByteArray × Int)
 | 0, _, _, _, _, _ => none
 | k + 1, x0, x4, x5, x6, x27 => if x27 = true then (if 0 ≤ x6 then (if x6 < (x0.size : Int) then ((wicketref03_Letter.f (bt x0 x6)).bind fun t336 => (if t336 = true then (wicketref03_Scopes.l0 k x0 x4 x5 (wrap64 (x6 + 1))) else (some (([] : List ByteArray), 33)))) else (none)) else (none)) else (if x6 = x5 then (some (([] : List ByteArray), 33)) else (if 0 ≤ x5 then (if x5 ≤ x6 then (if x6 ≤ (x0.size : Int) then ((wicketref03_put.f k x4 (x0.extract (x5 : Int).toNat (x6 : Int).toNat)).bind fun t337 => (wicketref03_Scopes.l0 k x0 t337 (wrap64 (x6 + 1)) (wrap64 (x6 + 1)))) else (none)) else (none)) else (none)))
end
def wicketref03_Scopes.f (k : Nat) (a0 : ByteArray) : Option (List ByteArray × Int) := if (a0.size : Int) > 256 then (some (([] : List ByteArray), 1)) else (if a0.toList = ([] : List UInt8) then (some (([] : List ByteArray), 0)) else (wicketref03_Scopes.l0 k a0 ([] : List ByteArray) 0 0))
set_option maxHeartbeats 8000000 in
set_option maxRecDepth 100000 in
theorem wicketref03_Scopes.calls (k : Nat) (a0 : ByteArray) (r1 : List ByteArray) (r2 : Int) (w : World) (h : wicketref03_Scopes.f k a0 = some (r1, r2)) :
 Calls Tryz.prog 43 #[.string a0] w fun e w' => ∃ v0_ : Value, e = .returned (.tuple #[v0_, .int .i64 r2]) ∧ Kd.R Kd.string 9 w' w.heap.size (fun _ => True) v0_ r1 ∧ Below w.heap.size w w' := by
 have HB := Aside0.mk (Below.refl w.heap.size w)
 have H : (if (a0.size : Int) > 256 then (some (([] : List ByteArray), 1)) else (if a0.toList = ([] : List UInt8) then (some (([] : List ByteArray), 0)) else (wicketref03_Scopes.l0 k a0 ([] : List ByteArray) 0 0))) = some (r1, r2) := h
 clear h
 by_cases c2 : (a0.size : Int) > 256
 · rw [if_pos c2] at H
   have c2b0 : decide (256 < (a0.size : Int)) = true := decide_eq_true c2
   have c2b1 : decide (256 < a0.size) = true := decide_eq_true (by omega)
   clear c2
   simp only [Option.some.injEq, Prod.mk.injEq] at H
   obtain ⟨rfl, rfl⟩ := H
   go_enter Tryz.func43, Tryz.ntmps43
   go_wp2
   go_ret2
   exact ⟨_, rfl, by (exact Kd.R_nil _ _ _ _ _), by (with_reducible exact HB.out)⟩
 · rw [if_neg c2] at H
   have c2b0 : decide (256 < (a0.size : Int)) = false := decide_eq_false c2
   have c2b1 : decide (256 < a0.size) = false := decide_eq_false (by omega)
   clear c2
   by_cases c3 : a0.toList = ([] : List UInt8)
   · rw [if_pos c3] at H
     have c3b0 : (a0.toList == ([] : List UInt8)) = true := beq_iff_eq.mpr c3
     have c3b1 : (a0.toList != ([] : List UInt8)) = false := bne_eq_false_iff_eq.mpr c3
     clear c3
     simp only [Option.some.injEq, Prod.mk.injEq] at H
     obtain ⟨rfl, rfl⟩ := H
     go_enter Tryz.func43, Tryz.ntmps43
     go_wp2
     go_ret2
     exact ⟨_, rfl, by (exact Kd.R_nil _ _ _ _ _), by (with_reducible exact HB.out)⟩
   · rw [if_neg c3] at H
     have c3b0 : (a0.toList == ([] : List UInt8)) = false := beq_eq_false_iff_ne.mpr c3
     have c3b1 : (a0.toList != ([] : List UInt8)) = true := bne_iff_ne.mpr c3
     have H' := Aside0.mk H
     clear H
     go_enter Tryz.func43, Tryz.ntmps43
     go_wp2
     go_loopg [4, 5, 6] k (fun kq v4 v5 v6 w' => ∃ (x4_1 : List ByteArray) (x5_1 : Int) (x6_1 : Int), v5 = .int .i64 x5_1 ∧ v6 = .int .i64 x6_1 ∧ Aside0 (wicketref03_Scopes.l0 kq a0 x4_1 x5_1 x6_1 = some (r1, r2)) ∧ Aside0 (kq ≤ k) ∧ Aside0 (Kd.R Kd.string 9 w' w.heap.size (fun _ => True) v4 x4_1) ∧ Aside0 (Below w.heap.size w w'))
     case atStart => exact ⟨(([] : List ByteArray)), (0), (0), rfl, rfl, H', ⟨Nat.le_refl _⟩, ⟨by (exact Kd.R_nil _ _ _ _ _)⟩, ⟨HB.out⟩⟩
     case round =>
      clear H' c2b0 c2b1 c3 c3b0 c3b1
      obtain ⟨x4_1, x5_1, x6_1, rfl, rfl, HA, HK1, HO_4, HB⟩ := hrel
      cases gk with
      | zero => exact absurd HA.out (by simp [wicketref03_Scopes.l0])
      | succ k1 =>
       have H := HA.out
       clear HA
       simp only [wicketref03_Scopes.l0] at H
       by_cases c4 : x6_1 ≤ (a0.size : Int)
       · rw [if_pos c4] at H
         have c4b0 : decide (x6_1 ≤ (a0.size : Int)) = true := decide_eq_true c4
         clear c4
         have HC5 := Aside0.mk H
         clear H
         go_upto_region 10 with (fail)
         go_cut [27] (fun v27 wc => ∃ (kq : Nat) (x27_4 : Bool), v27 = .bool x27_4 ∧ Aside0 (wicketref03_Scopes.j1 kq a0 x4_1 x5_1 x6_1 x27_4 = some (r1, r2)) ∧ Aside0 (kq ≤ k1) ∧ Aside0 (Kd.R Kd.string 9 wc w.heap.size (fun _ => True) u4 x4_1) ∧ Aside0 (Below w.heap.size w wc))
         case first =>
          have H := HC5.out
          clear HC5
          by_cases c6 : x6_1 < (a0.size : Int)
          · rw [if_pos c6] at H
            have c6b0 : decide (x6_1 < (a0.size : Int)) = true := decide_eq_true c6
            clear c6
            by_cases c7 : 0 ≤ x6_1
            · rw [if_pos c7] at H
              have c7b0 : decide (0 ≤ x6_1) = true := decide_eq_true c7
              clear c7
              have H' := Aside0.mk H
              clear H
              have p8 : 0 ≤ (x6_1 : Int) := of_decide_eq_true (by assumption)
              have q8 : x6_1 < (a0.size : Int) := of_decide_eq_true (by assumption)
              have hx8 := bt_at a0 x6_1
              replace p8 := eq_true p8
              replace q8 := eq_true q8
              go_wp2
              go_meet
              case rel => exact ⟨_, (((bt a0 x6_1) != 32)), rfl, H', ⟨by have := HK1.out; (omega)⟩, ⟨HO_4.out⟩, ⟨HB.out⟩⟩
            · rw [if_neg c7] at H
              exact absurd H (by simp)
          · rw [if_neg c6] at H
            have c6b0 : decide (x6_1 < (a0.size : Int)) = false := decide_eq_false c6
            clear c6
            have H' := Aside0.mk H
            clear H
            go_wp2
            go_meet
            case rel => exact ⟨_, (false), rfl, H', ⟨by have := HK1.out; (omega)⟩, ⟨HO_4.out⟩, ⟨HB.out⟩⟩
         case rest =>
          clear HC5 c4b0
          obtain ⟨kq, x27_4, rfl, HA, HJ4, HO_4, HB⟩ := hcut
          cases kq with
          | zero => exact absurd HA.out (by simp [wicketref03_Scopes.j1])
          | succ kj4 =>
           have H := HA.out
           clear HA
           simp only [wicketref03_Scopes.j1] at H
           by_cases c9 : x27_4 = true
           · subst c9
             have H1 : (if 0 ≤ x6_1 then (if x6_1 < (a0.size : Int) then ((wicketref03_Letter.f (bt a0 x6_1)).bind fun t336 => (if t336 = true then (wicketref03_Scopes.l0 kj4 a0 x4_1 x5_1 (wrap64 (x6_1 + 1))) else (some (([] : List ByteArray), 33)))) else (none)) else (none)) = some (r1, r2) := by rw [if_pos rfl] at H; exact H
             clear H
             have H := H1
             clear H1
             by_cases c10 : 0 ≤ x6_1
             · rw [if_pos c10] at H
               have c10b0 : decide (0 ≤ x6_1) = true := decide_eq_true c10
               clear c10
               by_cases c11 : x6_1 < (a0.size : Int)
               · rw [if_pos c11] at H
                 have c11b0 : decide (x6_1 < (a0.size : Int)) = true := decide_eq_true c11
                 clear c11
                 replace H := Option.bind_eq_some_iff.mp H
                 obtain ⟨t336, A130, H⟩ := H
                 replace H : (if t336 = true then (wicketref03_Scopes.l0 kj4 a0 x4_1 x5_1 (wrap64 (x6_1 + 1))) else (some (([] : List ByteArray), 33))) = some (r1, r2) := H
                 have A13 := Aside0.mk A130
                 clear A130
                 by_cases c14 : t336 = true
                 · subst c14
                   have H1 : (wicketref03_Scopes.l0 kj4 a0 x4_1 x5_1 (wrap64 (x6_1 + 1))) = some (r1, r2) := by rw [if_pos rfl] at H; exact H
                   clear H
                   have H := H1
                   clear H1
                   have H' := Aside0.mk H
                   clear H
                   have p12 : 0 ≤ (x6_1 : Int) := of_decide_eq_true (by assumption)
                   have q12 : x6_1 < (a0.size : Int) := of_decide_eq_true (by assumption)
                   have hx12 := bt_at a0 x6_1
                   replace p12 := eq_true p12
                   replace q12 := eq_true q12
                   go_wp2_with (first | ((with_reducible refine gate_callee (f := 74) rfl ?_); refine goesL_ (some 31) rfl rfl Tryz.func74 (by kernel_rfl) rfl #[.int .u8 (bt a0 x6_1)] rfl (by ((try simp only [List.map_toArray, List.map_cons, List.map_nil]); (rfl))) ?_; (with_reducible refine (wicketref03_Letter.calls (bt a0 x6_1) true _ A13.out).mono ?_); rintro e w' ⟨rfl, ⟨nd, rfl⟩⟩; refine ⟨_, rfl, ?_⟩))
                   go_roundg kj4
                   case measure => have := HK1.out; have := HJ4.out; omega
                   case rel => exact ⟨(x4_1), (x5_1), (wrap64 (x6_1 + 1)), rfl, rfl, H', ⟨by have := HK1.out; have := HJ4.out; omega⟩, ⟨by ((with_reducible repeat (apply Kd.R_drewN)); exact HO_4.out)⟩, ⟨by (repeat (with_reducible first | exact HB.out | apply pw_below_drewN))⟩⟩
                 · replace c14 := Bool.eq_false_iff.mpr c14
                   subst c14
                   have H1 : (some (([] : List ByteArray), 33)) = some (r1, r2) := by rw [if_neg (show ¬ (false = true) by decide)] at H; exact H
                   clear H
                   have H := H1
                   clear H1
                   simp only [Option.some.injEq, Prod.mk.injEq] at H
                   obtain ⟨rfl, rfl⟩ := H
                   have p12 : 0 ≤ (x6_1 : Int) := of_decide_eq_true (by assumption)
                   have q12 : x6_1 < (a0.size : Int) := of_decide_eq_true (by assumption)
                   have hx12 := bt_at a0 x6_1
                   replace p12 := eq_true p12
                   replace q12 := eq_true q12
                   go_wp2_with (first | ((with_reducible refine gate_callee (f := 74) rfl ?_); refine goesL_ (some 31) rfl rfl Tryz.func74 (by kernel_rfl) rfl #[.int .u8 (bt a0 x6_1)] rfl (by ((try simp only [List.map_toArray, List.map_cons, List.map_nil]); (rfl))) ?_; (with_reducible refine (wicketref03_Letter.calls (bt a0 x6_1) false _ A13.out).mono ?_); rintro e w' ⟨rfl, ⟨nd, rfl⟩⟩; refine ⟨_, rfl, ?_⟩))
                   go_ret2
                   exact ⟨_, rfl, by (exact Kd.R_nil _ _ _ _ _), by (repeat (with_reducible first | exact HB.out | apply pw_below_drewN))⟩
               · rw [if_neg c11] at H
                 exact absurd H (by simp)
             · rw [if_neg c10] at H
               exact absurd H (by simp)
           · replace c9 := Bool.eq_false_iff.mpr c9
             subst c9
             have H1 : (if x6_1 = x5_1 then (some (([] : List ByteArray), 33)) else (if 0 ≤ x5_1 then (if x5_1 ≤ x6_1 then (if x6_1 ≤ (a0.size : Int) then ((wicketref03_put.f kj4 x4_1 (a0.extract (x5_1 : Int).toNat (x6_1 : Int).toNat)).bind fun t337 => (wicketref03_Scopes.l0 kj4 a0 t337 (wrap64 (x6_1 + 1)) (wrap64 (x6_1 + 1)))) else (none)) else (none)) else (none))) = some (r1, r2) := by rw [if_neg (show ¬ (false = true) by decide)] at H; exact H
             clear H
             have H := H1
             clear H1
             by_cases c15 : x6_1 = x5_1
             · rw [if_pos c15] at H
               have c15b0 : (x6_1 == x5_1) = true := beq_iff_eq.mpr c15
               have c15b1 : (x6_1 != x5_1) = false := bne_eq_false_iff_eq.mpr c15
               clear c15
               simp only [Option.some.injEq, Prod.mk.injEq] at H
               obtain ⟨rfl, rfl⟩ := H
               go_wp2
               go_ret2
               exact ⟨_, rfl, by (exact Kd.R_nil _ _ _ _ _), by (with_reducible exact HB.out)⟩
             · rw [if_neg c15] at H
               have c15b0 : (x6_1 == x5_1) = false := beq_eq_false_iff_ne.mpr c15
               have c15b1 : (x6_1 != x5_1) = true := bne_iff_ne.mpr c15
               by_cases c16 : 0 ≤ x5_1
               · rw [if_pos c16] at H
                 have c16b0 := eq_true c16
                 have c16b1 : decide (0 ≤ x5_1) = true := decide_eq_true c16
                 clear c16
                 by_cases c17 : x5_1 ≤ x6_1
                 · rw [if_pos c17] at H
                   have c17b0 := eq_true c17
                   have c17b1 : decide (x5_1 ≤ x6_1) = true := decide_eq_true c17
                   clear c17
                   by_cases c18 : x6_1 ≤ (a0.size : Int)
                   · rw [if_pos c18] at H
                     have c18b0 := eq_true c18
                     have c18b1 : decide (x6_1 ≤ (a0.size : Int)) = true := decide_eq_true c18
                     clear c18
                     replace H := Option.bind_eq_some_iff.mp H
                     obtain ⟨t337, A190, H⟩ := H
                     replace H : (wicketref03_Scopes.l0 kj4 a0 t337 (wrap64 (x6_1 + 1)) (wrap64 (x6_1 + 1))) = some (r1, r2) := H
                     have A19 := Aside0.mk A190
                     clear A190
                     have H' := Aside0.mk H
                     clear H
                     obtain ⟨Ao20, co20, eo20⟩ := Kd.R_slice HO_4.out
                     subst eo20
                     go_wp2_with (first | ((with_reducible refine gate_callee (f := 75) rfl ?_); refine goesL_ (some 41) rfl rfl Tryz.func75 (by kernel_rfl) rfl #[.slice Ao20 x4_1.length co20, .string (a0.extract (x5_1 : Int).toNat (x6_1 : Int).toNat)] rfl (by ((try simp only [List.map_toArray, List.map_cons, List.map_nil]); (rfl))) ?_; (with_reducible refine (wicketref03_put.calls kj4 (fun k_ => some k_ = (.slice Ao20 x4_1.length co20 : Value).ownBlock) (.slice Ao20 x4_1.length co20) x4_1 (a0.extract (x5_1 : Int).toNat (x6_1 : Int).toNat) t337 w _ ?side1 ?side2 A19.out).mono ?_); (case side1 => repeat ((with_reducible (exact HB.out)))); (case side2 => exact Kd.R_tight rfl HO_4.out); rintro e w21 ⟨v338, rfl, ho0, hb, hkp⟩; refine ⟨_, rfl, ?_⟩; have n0_ := Aside0.mk (Kd.R_mono (ok' := fun k_ => True) ho0 (fun k_ hk_ => trivial)); have n1_ := Aside0.mk hb; clear HB HO_4; have HO339 := n0_; have HB := n1_; clear n0_ n1_; clear hb hkp ho0))
                     go_roundg kj4
                     case measure => have := HK1.out; have := HJ4.out; omega
                     case rel => exact ⟨(t337), (wrap64 (x6_1 + 1)), (wrap64 (x6_1 + 1)), rfl, rfl, H', ⟨by have := HK1.out; have := HJ4.out; omega⟩, ⟨HO339.out⟩, ⟨HB.out⟩⟩
                   · rw [if_neg c18] at H
                     exact absurd H (by simp)
                 · rw [if_neg c17] at H
                   exact absurd H (by simp)
               · rw [if_neg c16] at H
                 exact absurd H (by simp)
       · rw [if_neg c4] at H
         have c4b0 : decide (x6_1 ≤ (a0.size : Int)) = false := decide_eq_false c4
         clear c4
         by_cases c22 : (x4_1.length : Int) > 32
         · rw [if_pos c22] at H
           have c22b0 : decide (32 < (x4_1.length : Int)) = true := decide_eq_true c22
           have c22b1 : decide (32 < x4_1.length) = true := decide_eq_true (by omega)
           clear c22
           simp only [Option.some.injEq, Prod.mk.injEq] at H
           obtain ⟨rfl, rfl⟩ := H
           obtain ⟨Ao23, co23, eo23⟩ := Kd.R_slice HO_4.out
           subst eo23
           go_wp2
           go_ret2
           exact ⟨_, rfl, by (exact Kd.R_nil _ _ _ _ _), by (with_reducible exact HB.out)⟩
         · rw [if_neg c22] at H
           have c22b0 : decide (32 < (x4_1.length : Int)) = false := decide_eq_false c22
           have c22b1 : decide (32 < x4_1.length) = false := decide_eq_false (by omega)
           clear c22
           simp only [Option.some.injEq, Prod.mk.injEq] at H
           obtain ⟨rfl, rfl⟩ := H
           obtain ⟨Ao24, co24, eo24⟩ := Kd.R_slice HO_4.out
           subst eo24
           go_wp2
           go_ret2
           exact ⟨_, rfl, by ((with_reducible repeat (first | apply Kd.R_alloc  | apply Kd.R_drewN  | apply Kd.R_drew)); exact HO_4.out), by (with_reducible exact HB.out)⟩
def wicketref11_Joined.l0 : Nat → List ByteArray → ByteArray → Int → Option (ByteArray)
 | 0, _, _, _ => none
 | k + 1, x0, x3, x4 => if x4 < (x0.length : Int) then (if x4 > 0 then (if x3.size + 1 ≤ 9223372036854775807 then (if 0 ≤ x4 then (if (x3 ++ (⟨#[32]⟩ : ByteArray)).size + (rdOf ByteArray.empty x0 x4).size ≤ 9223372036854775807 then (wicketref11_Joined.l0 k x0 ((x3 ++ (⟨#[32]⟩ : ByteArray)) ++ (rdOf ByteArray.empty x0 x4)) (wrap64 (x4 + 1))) else (none)) else (none)) else (none)) else (if 0 ≤ x4 then (if x3.size + (rdOf ByteArray.empty x0 x4).size ≤ 9223372036854775807 then (wicketref11_Joined.l0 k x0 (x3 ++ (rdOf ByteArray.empty x0 x4)) (wrap64 (x4 + 1))) else (none)) else (none))) else (some x3)
def wicketref11_Joined.f (k : Nat) (l0 : List ByteArray) : Option (ByteArray) := wicketref11_Joined.l0 k l0 (⟨#[]⟩ : ByteArray) 0
set_option maxHeartbeats 8000000 in
set_option maxRecDepth 100000 in
theorem wicketref11_Joined.calls (k : Nat) (A0 : Option Addr) (c0 : Nat) (l0 : List ByteArray) (r : ByteArray) (w : World) (hr0 : Kd.C Kd.string w A0 l0.length l0) (hc0 : l0.length ≤ c0) (h : wicketref11_Joined.f k l0 = some r) :
 Calls Tryz.prog 42 #[.slice A0 l0.length c0] w fun e w' => e = .returned (.string r) ∧ Drawn0 w w' := by
 have HR0 := Aside0.mk hr0
 have HC0 := Aside0.mk hc0
 clear hr0 hc0
 have H : (wicketref11_Joined.l0 k l0 (⟨#[]⟩ : ByteArray) 0) = some r := h
 clear h
 have H' := Aside0.mk H
 clear H
 go_enter Tryz.func42, Tryz.ntmps42
 go_wp2
 go_loopg [3, 4] k (fun kq v3 v4 w' => ∃ (x3_1 : ByteArray) (x4_1 : Int), v3 = .string x3_1 ∧ v4 = .int .i64 x4_1 ∧ Aside0 (wicketref11_Joined.l0 kq l0 x3_1 x4_1 = some r) ∧ Aside0 (kq ≤ k) ∧ Drawn0 w w')
 case atStart => exact ⟨((⟨#[]⟩ : ByteArray)), (0), rfl, rfl, H', ⟨Nat.le_refl _⟩, by repeat (exact Drawn0.refl _)⟩
 case round =>
  clear H'
  obtain ⟨x3_1, x4_1, rfl, rfl, HA, HK1, ⟨m1, rfl⟩⟩ := hrel
  cases gk with
  | zero => exact absurd HA.out (by simp [wicketref11_Joined.l0])
  | succ k1 =>
   have H := HA.out
   clear HA
   simp only [wicketref11_Joined.l0] at H
   by_cases c2 : x4_1 < (l0.length : Int)
   · rw [if_pos c2] at H
     have c2b0 : decide (x4_1 < (l0.length : Int)) = true := decide_eq_true c2
     clear c2
     by_cases c3 : x4_1 > 0
     · rw [if_pos c3] at H
       have c3b0 : decide (0 < x4_1) = true := decide_eq_true c3
       clear c3
       by_cases c4 : x3_1.size + 1 ≤ 9223372036854775807
       · rw [if_pos c4] at H
         have c4b0 := eq_true c4
         have c4b1 : decide (x3_1.size + 1 ≤ 9223372036854775807) = true := decide_eq_true c4
         try have c4b2 : (9223372036854775807 < x3_1.size + 1) = False := eq_false (Nat.not_lt.2 c4)
         by_cases c5 : 0 ≤ x4_1
         · rw [if_pos c5] at H
           have c5b0 : decide (0 ≤ x4_1) = true := decide_eq_true c5
           clear c5
           by_cases c6 : (x3_1 ++ (⟨#[32]⟩ : ByteArray)).size + (rdOf ByteArray.empty l0 x4_1).size ≤ 9223372036854775807
           · rw [if_pos c6] at H
             have c6b0 := eq_true c6
             have c6b1 : decide ((x3_1 ++ (⟨#[32]⟩ : ByteArray)).size + (rdOf ByteArray.empty l0 x4_1).size ≤ 9223372036854775807) = true := decide_eq_true c6
             try have c6b2 : (9223372036854775807 < (x3_1 ++ (⟨#[32]⟩ : ByteArray)).size + (rdOf ByteArray.empty l0 x4_1).size) = False := eq_false (Nat.not_lt.2 c6)
             try have c6b3 : (9223372036854775807 < x3_1.size + 1 + (rdOf ByteArray.empty l0 x4_1).size) = False := eq_false (Nat.not_lt.2 (by have h_ := c6; simp only [ByteArray.size_append'] at h_; exact h_))
             have H' := Aside0.mk H
             clear H
             have p340 : 0 ≤ (x4_1 : Int) := of_decide_eq_true (by assumption)
             have q340 : x4_1 < (l0.length : Int) := of_decide_eq_true (by assumption)
             obtain ⟨ad340, e340, hx340_0⟩ := Kd.at_string HR0.out x4_1 p340 q340
             cases e340
             replace p340 := eq_true p340
             replace q340 := eq_true q340
             go_wp2
             go_roundg k1
             case measure => have := HK1.out; omega
             case rel => exact ⟨((x3_1 ++ (⟨#[32]⟩ : ByteArray)) ++ (rdOf ByteArray.empty l0 x4_1)), (wrap64 (x4_1 + 1)), rfl, rfl, H', ⟨by have := HK1.out; omega⟩, by repeat (first | exact Drawn0.refl _ | apply Drawn0.step)⟩
           · rw [if_neg c6] at H
             exact absurd H (by simp)
         · rw [if_neg c5] at H
           exact absurd H (by simp)
       · rw [if_neg c4] at H
         exact absurd H (by simp)
     · rw [if_neg c3] at H
       have c3b0 : decide (0 < x4_1) = false := decide_eq_false c3
       clear c3
       by_cases c7 : 0 ≤ x4_1
       · rw [if_pos c7] at H
         have c7b0 : decide (0 ≤ x4_1) = true := decide_eq_true c7
         clear c7
         by_cases c8 : x3_1.size + (rdOf ByteArray.empty l0 x4_1).size ≤ 9223372036854775807
         · rw [if_pos c8] at H
           have c8b0 := eq_true c8
           have c8b1 : decide (x3_1.size + (rdOf ByteArray.empty l0 x4_1).size ≤ 9223372036854775807) = true := decide_eq_true c8
           try have c8b2 : (9223372036854775807 < x3_1.size + (rdOf ByteArray.empty l0 x4_1).size) = False := eq_false (Nat.not_lt.2 c8)
           have H' := Aside0.mk H
           clear H
           have p341 : 0 ≤ (x4_1 : Int) := of_decide_eq_true (by assumption)
           have q341 : x4_1 < (l0.length : Int) := of_decide_eq_true (by assumption)
           obtain ⟨ad341, e341, hx341_0⟩ := Kd.at_string HR0.out x4_1 p341 q341
           cases e341
           replace p341 := eq_true p341
           replace q341 := eq_true q341
           go_wp2
           go_roundg k1
           case measure => have := HK1.out; omega
           case rel => exact ⟨(x3_1 ++ (rdOf ByteArray.empty l0 x4_1)), (wrap64 (x4_1 + 1)), rfl, rfl, H', ⟨by have := HK1.out; omega⟩, by repeat (first | exact Drawn0.refl _ | apply Drawn0.step)⟩
         · rw [if_neg c8] at H
           exact absurd H (by simp)
       · rw [if_neg c7] at H
         exact absurd H (by simp)
   · rw [if_neg c2] at H
     have c2b0 : decide (x4_1 < (l0.length : Int)) = false := decide_eq_false c2
     clear c2
     obtain rfl := Option.some.inj H
     go_wp2
     go_ret
     exact ⟨by (rfl), by repeat (first | exact Drawn0.refl _ | apply Drawn0.step)⟩
end Go.Proofs.YtmimipgmhgalaaaGreatDoor.PAll
end
section
namespace Go.Proofs.YtmimipgmhgalaaaGreatDoor.PAll
open Go.RowKit Go.Proofs.YtmimipgmhgalaaaGreatDoorW.PrintWords Go.Proofs.YtmimipgmhgalaaaGreatDoorW.PrintLast Go.Proofs.YtmimipgmhgalaaaGreatDoorW.PrintMore
attribute [local go_sem] max2_int min2_int max_two min_two max_three min_three max_four min_four
set_option linter.unusedVariables false
set_option linter.unusedSimpArgs false
def wicketref11_texts.l0 : Nat → List ByteArray → List ByteArray → Int → Option (Bool)
 | 0, _, _, _ => none
 | k + 1, x0, x1, x5 => if x5 < (x0.length : Int) then (if 0 ≤ x5 then (if x5 < (x1.length : Int) then (if (rdOf ByteArray.empty x0 x5).toList = (rdOf ByteArray.empty x1 x5).toList then (wicketref11_texts.l0 k x0 x1 (wrap64 (x5 + 1))) else (some false)) else (none)) else (none)) else (some true)
def wicketref11_texts.f (k : Nat) (l0 : List ByteArray) (l1 : List ByteArray) : Option (Bool) := if (l0.length : Int) = (l1.length : Int) then (wicketref11_texts.l0 k l0 l1 0) else (some false)
set_option maxHeartbeats 8000000 in
set_option maxRecDepth 100000 in
theorem wicketref11_texts.calls (k : Nat) (A0 : Option Addr) (c0 : Nat) (l0 : List ByteArray) (A1 : Option Addr) (c1 : Nat) (l1 : List ByteArray) (r : Bool) (w : World) (hr0 : Kd.C Kd.string w A0 l0.length l0) (hc0 : l0.length ≤ c0) (hr1 : Kd.C Kd.string w A1 l1.length l1) (hc1 : l1.length ≤ c1) (h : wicketref11_texts.f k l0 l1 = some r) :
 Calls Tryz.prog 57 #[.slice A0 l0.length c0, .slice A1 l1.length c1] w fun e w' => e = .returned (.bool r) ∧ Drawn0 w w' := by
 have HR0 := Aside0.mk hr0
 have HC0 := Aside0.mk hc0
 clear hr0 hc0
 have HR1 := Aside0.mk hr1
 have HC1 := Aside0.mk hc1
 clear hr1 hc1
 have H : (if (l0.length : Int) = (l1.length : Int) then (wicketref11_texts.l0 k l0 l1 0) else (some false)) = some r := h
 clear h
 by_cases c3 : (l0.length : Int) = (l1.length : Int)
 · rw [if_pos c3] at H
   have c3b0 : ((l0.length : Int) == (l1.length : Int)) = true := beq_iff_eq.mpr c3
   have c3b1 : ((l0.length : Int) != (l1.length : Int)) = false := bne_eq_false_iff_eq.mpr c3
   have c3b2 : (l0.length == l1.length) = true := by (simp at c3 ⊢; omega)
   clear c3
   have H' := Aside0.mk H
   clear H
   go_enter Tryz.func57, Tryz.ntmps57
   go_wp2
   repeat (go_quiet (fail); try go_wp2)
   go_loopg [5] k (fun kq v5 w' => ∃ (x5_1 : Int), v5 = .int .i64 x5_1 ∧ Aside0 (wicketref11_texts.l0 kq l0 l1 x5_1 = some r) ∧ Aside0 (kq ≤ k) ∧ Drawn0 w w')
   case atStart => exact ⟨(0), rfl, H', ⟨Nat.le_refl _⟩, by repeat (exact Drawn0.refl _)⟩
   case round =>
    clear H' c3b0 c3b1 c3b2
    obtain ⟨x5_1, rfl, HA, HK1, ⟨m1, rfl⟩⟩ := hrel
    cases gk with
    | zero => exact absurd HA.out (by simp [wicketref11_texts.l0])
    | succ k1 =>
     have H := HA.out
     clear HA
     simp only [wicketref11_texts.l0] at H
     by_cases c4 : x5_1 < (l0.length : Int)
     · rw [if_pos c4] at H
       have c4b0 : decide (x5_1 < (l0.length : Int)) = true := decide_eq_true c4
       clear c4
       by_cases c5 : 0 ≤ x5_1
       · rw [if_pos c5] at H
         have c5b0 : decide (0 ≤ x5_1) = true := decide_eq_true c5
         clear c5
         by_cases c6 : x5_1 < (l1.length : Int)
         · rw [if_pos c6] at H
           have c6b0 : decide (x5_1 < (l1.length : Int)) = true := decide_eq_true c6
           clear c6
           by_cases c7 : (rdOf ByteArray.empty l0 x5_1).toList = (rdOf ByteArray.empty l1 x5_1).toList
           · rw [if_pos c7] at H
             have c7b0 : ((rdOf ByteArray.empty l0 x5_1).toList == (rdOf ByteArray.empty l1 x5_1).toList) = true := beq_iff_eq.mpr c7
             have c7b1 : ((rdOf ByteArray.empty l0 x5_1).toList != (rdOf ByteArray.empty l1 x5_1).toList) = false := bne_eq_false_iff_eq.mpr c7
             clear c7
             have H' := Aside0.mk H
             clear H
             have p342 : 0 ≤ (x5_1 : Int) := of_decide_eq_true (by assumption)
             have q342 : x5_1 < (l0.length : Int) := of_decide_eq_true (by assumption)
             obtain ⟨ad342, e342, hx342_0⟩ := Kd.at_string HR0.out x5_1 p342 q342
             cases e342
             replace p342 := eq_true p342
             replace q342 := eq_true q342
             have p343 : 0 ≤ (x5_1 : Int) := of_decide_eq_true (by assumption)
             have q343 : x5_1 < (l1.length : Int) := of_decide_eq_true (by assumption)
             obtain ⟨ad343, e343, hx343_0⟩ := Kd.at_string HR1.out x5_1 p343 q343
             cases e343
             replace p343 := eq_true p343
             replace q343 := eq_true q343
             go_wp2
             repeat (go_quiet (fail); try go_wp2)
             go_roundg k1
             case measure => have := HK1.out; omega
             case rel => exact ⟨(wrap64 (x5_1 + 1)), rfl, H', ⟨by have := HK1.out; omega⟩, by repeat (first | exact Drawn0.refl _ | apply Drawn0.step)⟩
           · rw [if_neg c7] at H
             have c7b0 : ((rdOf ByteArray.empty l0 x5_1).toList == (rdOf ByteArray.empty l1 x5_1).toList) = false := beq_eq_false_iff_ne.mpr c7
             have c7b1 : ((rdOf ByteArray.empty l0 x5_1).toList != (rdOf ByteArray.empty l1 x5_1).toList) = true := bne_iff_ne.mpr c7
             obtain rfl := Option.some.inj H
             have p342 : 0 ≤ (x5_1 : Int) := of_decide_eq_true (by assumption)
             have q342 : x5_1 < (l0.length : Int) := of_decide_eq_true (by assumption)
             obtain ⟨ad342, e342, hx342_0⟩ := Kd.at_string HR0.out x5_1 p342 q342
             cases e342
             replace p342 := eq_true p342
             replace q342 := eq_true q342
             have p343 : 0 ≤ (x5_1 : Int) := of_decide_eq_true (by assumption)
             have q343 : x5_1 < (l1.length : Int) := of_decide_eq_true (by assumption)
             obtain ⟨ad343, e343, hx343_0⟩ := Kd.at_string HR1.out x5_1 p343 q343
             cases e343
             replace p343 := eq_true p343
             replace q343 := eq_true q343
             go_wp2
             repeat (go_quiet (fail); try go_wp2)
             go_ret
             exact ⟨by (rfl), by repeat (first | exact Drawn0.refl _ | apply Drawn0.step)⟩
         · rw [if_neg c6] at H
           exact absurd H (by simp)
       · rw [if_neg c5] at H
         exact absurd H (by simp)
     · rw [if_neg c4] at H
       have c4b0 : decide (x5_1 < (l0.length : Int)) = false := decide_eq_false c4
       clear c4
       obtain rfl := Option.some.inj H
       go_wp2
       repeat (go_quiet (fail); try go_wp2)
       go_ret
       exact ⟨by (rfl), by repeat (first | exact Drawn0.refl _ | apply Drawn0.step)⟩
 · rw [if_neg c3] at H
   have c3b0 : ((l0.length : Int) == (l1.length : Int)) = false := beq_eq_false_iff_ne.mpr c3
   have c3b1 : ((l0.length : Int) != (l1.length : Int)) = true := bne_iff_ne.mpr c3
   have c3b2 : (l0.length == l1.length) = false := by (simp at c3 ⊢; omega)
   obtain rfl := Option.some.inj H
   go_enter Tryz.func57, Tryz.ntmps57
   go_wp2
   repeat (go_quiet (fail); try go_wp2)
   go_ret
   exact ⟨by (rfl), by repeat (exact Drawn0.refl _)⟩
def wicketref11_bytes.l0 : Nat → ByteArray → Int → Int → Int → Int → Int → Option (Bool)
 | 0, _, _, _, _, _, _ => none
 | k + 1, x0, x1, x2, x3, x4, x11 => if x11 < (x0.size : Int) then (if 0 ≤ x11 then (if (bt x0 x11) < x1 then (some false) else (if (bt x0 x11) > x2 then (some false) else (wicketref11_bytes.l0 k x0 x1 x2 x3 x4 (wrap64 (x11 + 1))))) else (none)) else (if (x0.size : Int) ≥ x3 then (some (decide ((x0.size : Int) ≤ x4))) else (some false))
def wicketref11_bytes.f (k : Nat) (a0 : ByteArray) (a1 : Int) (a2 : Int) (a3 : Int) (a4 : Int) : Option (Bool) := wicketref11_bytes.l0 k a0 a1 a2 a3 a4 0
set_option maxHeartbeats 8000000 in
set_option maxRecDepth 100000 in
theorem wicketref11_bytes.calls (k : Nat) (a0 : ByteArray) (a1 : Int) (a2 : Int) (a3 : Int) (a4 : Int) (r : Bool) (w : World) (h : wicketref11_bytes.f k a0 a1 a2 a3 a4 = some r) :
 Calls Tryz.prog 58 #[.string a0, .int .u8 a1, .int .u8 a2, .int .i64 a3, .int .i64 a4] w fun e w' => e = .returned (.bool r) ∧ Drawn0 w w' := by
 have H : (wicketref11_bytes.l0 k a0 a1 a2 a3 a4 0) = some r := h
 clear h
 have H' := Aside0.mk H
 clear H
 go_enter Tryz.func58, Tryz.ntmps58
 go_wp2
 go_loopg [11] k (fun kq v11 w' => ∃ (x11_1 : Int), v11 = .int .i64 x11_1 ∧ Aside0 (wicketref11_bytes.l0 kq a0 a1 a2 a3 a4 x11_1 = some r) ∧ Aside0 (kq ≤ k) ∧ Drawn0 w w')
 case atStart => exact ⟨(0), rfl, H', ⟨Nat.le_refl _⟩, by repeat (exact Drawn0.refl _)⟩
 case round =>
  clear H'
  obtain ⟨x11_1, rfl, HA, HK1, ⟨m1, rfl⟩⟩ := hrel
  cases gk with
  | zero => exact absurd HA.out (by simp [wicketref11_bytes.l0])
  | succ k1 =>
   have H := HA.out
   clear HA
   simp only [wicketref11_bytes.l0] at H
   by_cases c6 : x11_1 < (a0.size : Int)
   · rw [if_pos c6] at H
     have c6b0 : decide (x11_1 < (a0.size : Int)) = true := decide_eq_true c6
     clear c6
     by_cases c7 : 0 ≤ x11_1
     · rw [if_pos c7] at H
       have c7b0 : decide (0 ≤ x11_1) = true := decide_eq_true c7
       clear c7
       by_cases c9 : (bt a0 x11_1) < a1
       · rw [if_pos c9] at H
         have c9b0 : decide ((bt a0 x11_1) < a1) = true := decide_eq_true c9
         clear c9
         obtain rfl := Option.some.inj H
         have p8 : 0 ≤ (x11_1 : Int) := of_decide_eq_true (by assumption)
         have q8 : x11_1 < (a0.size : Int) := of_decide_eq_true (by assumption)
         have hx8 := bt_at a0 x11_1
         replace p8 := eq_true p8
         replace q8 := eq_true q8
         go_wp2
         go_ret
         exact ⟨by (rfl), by repeat (first | exact Drawn0.refl _ | apply Drawn0.step)⟩
       · rw [if_neg c9] at H
         have c9b0 : decide ((bt a0 x11_1) < a1) = false := decide_eq_false c9
         clear c9
         by_cases c11 : (bt a0 x11_1) > a2
         · rw [if_pos c11] at H
           have c11b0 : decide (a2 < (bt a0 x11_1)) = true := decide_eq_true c11
           clear c11
           obtain rfl := Option.some.inj H
           have p8 : 0 ≤ (x11_1 : Int) := of_decide_eq_true (by assumption)
           have q8 : x11_1 < (a0.size : Int) := of_decide_eq_true (by assumption)
           have hx8 := bt_at a0 x11_1
           replace p8 := eq_true p8
           replace q8 := eq_true q8
           have p10 : 0 ≤ (x11_1 : Int) := of_decide_eq_true (by assumption)
           have q10 : x11_1 < (a0.size : Int) := of_decide_eq_true (by assumption)
           have hx10 := bt_at a0 x11_1
           replace p10 := eq_true p10
           replace q10 := eq_true q10
           go_wp2
           go_ret
           exact ⟨by (rfl), by repeat (first | exact Drawn0.refl _ | apply Drawn0.step)⟩
         · rw [if_neg c11] at H
           have c11b0 : decide (a2 < (bt a0 x11_1)) = false := decide_eq_false c11
           clear c11
           have H' := Aside0.mk H
           clear H
           have p8 : 0 ≤ (x11_1 : Int) := of_decide_eq_true (by assumption)
           have q8 : x11_1 < (a0.size : Int) := of_decide_eq_true (by assumption)
           have hx8 := bt_at a0 x11_1
           replace p8 := eq_true p8
           replace q8 := eq_true q8
           have p10 : 0 ≤ (x11_1 : Int) := of_decide_eq_true (by assumption)
           have q10 : x11_1 < (a0.size : Int) := of_decide_eq_true (by assumption)
           have hx10 := bt_at a0 x11_1
           replace p10 := eq_true p10
           replace q10 := eq_true q10
           go_wp2
           go_roundg k1
           case measure => have := HK1.out; omega
           case rel => exact ⟨(wrap64 (x11_1 + 1)), rfl, H', ⟨by have := HK1.out; omega⟩, by repeat (first | exact Drawn0.refl _ | apply Drawn0.step)⟩
     · rw [if_neg c7] at H
       exact absurd H (by simp)
   · rw [if_neg c6] at H
     have c6b0 : decide (x11_1 < (a0.size : Int)) = false := decide_eq_false c6
     clear c6
     by_cases c12 : (a0.size : Int) ≥ a3
     · rw [if_pos c12] at H
       have c12b0 : decide (a3 ≤ (a0.size : Int)) = true := decide_eq_true c12
       clear c12
       obtain rfl := Option.some.inj H
       go_wp2
       go_ret
       exact ⟨by (rfl), by repeat (first | exact Drawn0.refl _ | apply Drawn0.step)⟩
     · rw [if_neg c12] at H
       have c12b0 : decide (a3 ≤ (a0.size : Int)) = false := decide_eq_false c12
       clear c12
       obtain rfl := Option.some.inj H
       go_wp2
       go_ret
       exact ⟨by (rfl), by repeat (first | exact Drawn0.refl _ | apply Drawn0.step)⟩
def wicketref11_url.f (k : Nat) (a0_0 : ByteArray) (a0_1 : ByteArray) (a0_2 : Int) (a0_3 : Bool) (a0_4 : ByteArray) (l0_5 : List ByteArray) : Option (Bool) := if a0_3 = true then ((wicketref11_bytes.f k a0_4 33 126 9 256).bind fun t345 => (if t345 = true then (if 0 ≤ 8 then (if 8 ≤ (a0_4.size : Int) then (some ((a0_4.extract 0 8).toList == ([104, 116, 116, 112, 115, 58, 47, 47] : List UInt8))) else (none)) else (none)) else (some false))) else (some (a0_4.toList == ([] : List UInt8)))
set_option maxHeartbeats 8000000 in
set_option maxRecDepth 100000 in
theorem wicketref11_url.calls (k : Nat) (a0_0 : ByteArray) (a0_1 : ByteArray) (a0_2 : Int) (a0_3 : Bool) (a0_4 : ByteArray) (A0_5 : Option Addr) (c0_5 : Nat) (l0_5 : List ByteArray) (r : Bool) (w : World) (hr0_5 : Kd.C Kd.string w A0_5 l0_5.length l0_5) (hc0_5 : l0_5.length ≤ c0_5) (h : wicketref11_url.f k a0_0 a0_1 a0_2 a0_3 a0_4 l0_5 = some r) :
 Calls Tryz.prog 59 #[.agg #[.string a0_0, .string a0_1, .int .i64 a0_2, .bool a0_3, .string a0_4, .slice A0_5 l0_5.length c0_5]] w fun e w' => e = .returned (.bool r) ∧ Below w.heap.size w w' := by
 have hu43 := Tryz.underlying43
 have HR0_5 := Aside0.mk hr0_5
 have HC0_5 := Aside0.mk hc0_5
 clear hr0_5 hc0_5
 have HB := Aside0.mk (Below.refl w.heap.size w)
 have H : (if a0_3 = true then ((wicketref11_bytes.f k a0_4 33 126 9 256).bind fun t345 => (if t345 = true then (if 0 ≤ 8 then (if 8 ≤ (a0_4.size : Int) then (some ((a0_4.extract 0 8).toList == ([104, 116, 116, 112, 115, 58, 47, 47] : List UInt8))) else (none)) else (none)) else (some false))) else (some (a0_4.toList == ([] : List UInt8)))) = some r := h
 clear h
 by_cases c2 : a0_3 = true
 · subst c2
   have H1 : ((wicketref11_bytes.f k a0_4 33 126 9 256).bind fun t345 => (if t345 = true then (if 0 ≤ 8 then (if 8 ≤ (a0_4.size : Int) then (some ((a0_4.extract 0 8).toList == ([104, 116, 116, 112, 115, 58, 47, 47] : List UInt8))) else (none)) else (none)) else (some false))) = some r := by rw [if_pos rfl] at H; exact H
   clear H
   have H := H1
   clear H1
   replace H := Option.bind_eq_some_iff.mp H
   obtain ⟨t345, A30, H⟩ := H
   replace H : (if t345 = true then (if 0 ≤ 8 then (if 8 ≤ (a0_4.size : Int) then (some ((a0_4.extract 0 8).toList == ([104, 116, 116, 112, 115, 58, 47, 47] : List UInt8))) else (none)) else (none)) else (some false)) = some r := H
   have A3 := Aside0.mk A30
   clear A30
   by_cases c4 : t345 = true
   · subst c4
     have H1 : (if 0 ≤ 8 then (if 8 ≤ (a0_4.size : Int) then (some ((a0_4.extract 0 8).toList == ([104, 116, 116, 112, 115, 58, 47, 47] : List UInt8))) else (none)) else (none)) = some r := by rw [if_pos rfl] at H; exact H
     clear H
     have H := H1
     clear H1
     by_cases c5 : 0 ≤ 8
     · rw [if_pos c5] at H
       have c5b0 := eq_true c5
       have c5b1 : decide (0 ≤ 8) = true := decide_eq_true c5
       clear c5
       by_cases c6 : 8 ≤ (a0_4.size : Int)
       · rw [if_pos c6] at H
         have c6b0 := eq_true c6
         have c6b1 : decide (8 ≤ (a0_4.size : Int)) = true := decide_eq_true c6
         clear c6
         obtain rfl := Option.some.inj H
         go_enter Tryz.func59, Tryz.ntmps59
         go_wp2_with (first | ((with_reducible refine gate_dst (N := 1) rfl ?_); refine box_event ?hg (N := 1) ?hd (cs := #[.string a0_0, .string a0_1, .int .i64 a0_2, .bool true, .string a0_4, .slice A0_5 l0_5.length c0_5]) (t := 43) ?hr ?_; (case hd => rfl); (case hg => rfl); (case hr => (go_simp; done)); intro gb344 hg w7 hbox hb; have BK344 := Aside0.mk hbox; have GW344 := Aside0.mk ((by rw [hg]; exact (below_size HB.out) : w.heap.size ≤ gb344)); have GE344 := Aside0.mk ((by rw [hg]; exact (below_size HB.out) : w.heap.size ≤ gb344)); replace HB := Aside0.mk (below_step HB.out hb); clear hb hbox hg; obtain ⟨hcz8_0, hcz8_1, hcz8_2, hcz8_3, hcz8_4, hcz8_5, hfz8_0, hfz8_1, hfz8_2, hfz8_3, hfz8_4, hfz8_5⟩ := cz6_ BK344.out) | ((with_reducible refine gate_callee (f := 58) rfl ?_); refine goesL_ (some 12) rfl rfl Tryz.func58 (by kernel_rfl) rfl #[.string a0_4, .int .u8 33, .int .u8 126, .int .i64 9, .int .i64 256] rfl (by ((try simp only [List.map_toArray, List.map_cons, List.map_nil]); (rfl))) ?_; (with_reducible refine (wicketref11_bytes.calls k a0_4 33 126 9 256 true _ A3.out).mono ?_); rintro e w' ⟨rfl, ⟨nd, rfl⟩⟩; refine ⟨_, rfl, ?_⟩))
         go_ret
         exact ⟨by (rfl), by (repeat (with_reducible first | exact HB.out | apply pw_below_drewN))⟩
       · rw [if_neg c6] at H
         exact absurd H (by simp)
     · rw [if_neg c5] at H
       exact absurd H (by simp)
   · replace c4 := Bool.eq_false_iff.mpr c4
     subst c4
     have H1 : (some false) = some r := by rw [if_neg (show ¬ (false = true) by decide)] at H; exact H
     clear H
     have H := H1
     clear H1
     obtain rfl := Option.some.inj H
     go_enter Tryz.func59, Tryz.ntmps59
     go_wp2_with (first | ((with_reducible refine gate_dst (N := 1) rfl ?_); refine box_event ?hg (N := 1) ?hd (cs := #[.string a0_0, .string a0_1, .int .i64 a0_2, .bool true, .string a0_4, .slice A0_5 l0_5.length c0_5]) (t := 43) ?hr ?_; (case hd => rfl); (case hg => rfl); (case hr => (go_simp; done)); intro gb344 hg w9 hbox hb; have BK344 := Aside0.mk hbox; have GW344 := Aside0.mk ((by rw [hg]; exact (below_size HB.out) : w.heap.size ≤ gb344)); have GE344 := Aside0.mk ((by rw [hg]; exact (below_size HB.out) : w.heap.size ≤ gb344)); replace HB := Aside0.mk (below_step HB.out hb); clear hb hbox hg; obtain ⟨hcz10_0, hcz10_1, hcz10_2, hcz10_3, hcz10_4, hcz10_5, hfz10_0, hfz10_1, hfz10_2, hfz10_3, hfz10_4, hfz10_5⟩ := cz6_ BK344.out) | ((with_reducible refine gate_callee (f := 58) rfl ?_); refine goesL_ (some 12) rfl rfl Tryz.func58 (by kernel_rfl) rfl #[.string a0_4, .int .u8 33, .int .u8 126, .int .i64 9, .int .i64 256] rfl (by ((try simp only [List.map_toArray, List.map_cons, List.map_nil]); (rfl))) ?_; (with_reducible refine (wicketref11_bytes.calls k a0_4 33 126 9 256 false _ A3.out).mono ?_); rintro e w' ⟨rfl, ⟨nd, rfl⟩⟩; refine ⟨_, rfl, ?_⟩))
     go_ret
     exact ⟨by (rfl), by (repeat (with_reducible first | exact HB.out | apply pw_below_drewN))⟩
 · replace c2 := Bool.eq_false_iff.mpr c2
   subst c2
   have H1 : (some (a0_4.toList == ([] : List UInt8))) = some r := by rw [if_neg (show ¬ (false = true) by decide)] at H; exact H
   clear H
   have H := H1
   clear H1
   obtain rfl := Option.some.inj H
   go_enter Tryz.func59, Tryz.ntmps59
   go_wp2_with (first | ((with_reducible refine gate_dst (N := 1) rfl ?_); refine box_event ?hg (N := 1) ?hd (cs := #[.string a0_0, .string a0_1, .int .i64 a0_2, .bool false, .string a0_4, .slice A0_5 l0_5.length c0_5]) (t := 43) ?hr ?_; (case hd => rfl); (case hg => rfl); (case hr => (go_simp; done)); intro gb344 hg w11 hbox hb; have BK344 := Aside0.mk hbox; have GW344 := Aside0.mk ((by rw [hg]; exact (below_size HB.out) : w.heap.size ≤ gb344)); have GE344 := Aside0.mk ((by rw [hg]; exact (below_size HB.out) : w.heap.size ≤ gb344)); replace HB := Aside0.mk (below_step HB.out hb); clear hb hbox hg; obtain ⟨hcz12_0, hcz12_1, hcz12_2, hcz12_3, hcz12_4, hcz12_5, hfz12_0, hfz12_1, hfz12_2, hfz12_3, hfz12_4, hfz12_5⟩ := cz6_ BK344.out))
   go_ret
   exact ⟨by (rfl), by (with_reducible exact HB.out)⟩
end Go.Proofs.YtmimipgmhgalaaaGreatDoor.PAll
end
section
namespace Go.Proofs.YtmimipgmhgalaaaGreatDoor.PAll
open Go.RowKit Go.Proofs.YtmimipgmhgalaaaGreatDoorW.PrintWords Go.Proofs.YtmimipgmhgalaaaGreatDoorW.PrintLast Go.Proofs.YtmimipgmhgalaaaGreatDoorW.PrintMore
attribute [local go_sem] max2_int min2_int max_two min_two max_three min_three max_four min_four
set_option linter.unusedVariables false
set_option linter.unusedSimpArgs false
mutual
def wicketref11_Check.j0 : Nat → Bool → ByteArray → ByteArray → Int → Bool → ByteArray → List ByteArray → Option (Int)
 | 0, _, _, _, _, _, _, _ => none
 | k + 1, x5, x347000, x347001, x347002, x347003, x347004, x347005 => if x347003 = true then (if x347002 ≥ 2 then (wicketref11_Check.j1 k x5 (x347001.toList != ([] : List UInt8)) x347000 x347001 x347002 x347003 x347004 x347005) else (wicketref11_Check.j1 k x5 false x347000 x347001 x347002 x347003 x347004 x347005)) else (wicketref11_Check.j1 k x5 true x347000 x347001 x347002 x347003 x347004 x347005)
def wicketref11_Check.j1 : Nat → Bool → Bool → ByteArray → ByteArray → Int → Bool → ByteArray → List ByteArray → Option (Int)
 | 0, _, _, _, _, _, _, _, _ => none
 | k + 1, x5, x6, x347000, x347001, x347002, x347003, x347004, x347005 => (wicketref11_bytes.f k x347000 33 126 1 64).bind fun t353 => (if t353 = true then ((wicketref11_bytes.f k x347001 32 126 0 256).bind fun t354 => (if t354 = true then (if x347002 ≥ 1 then (if x347002 ≤ 3 then (if x6 = true then ((wicketref11_url.f k x347000 x347001 x347002 x347003 x347004 x347005).bind fun t355 => (if t355 = true then (if x5 = true then (some 0) else (some 111)) else (some 111))) else (some 111)) else (some 111)) else (some 111)) else (some 111))) else (some 111))
end
def wicketref11_Check.f (k : Nat) (a0_0 : ByteArray) (a0_1 : ByteArray) (a0_2 : Int) (a0_3 : Bool) (a0_4 : ByteArray) (l0_5 : List ByteArray) : Option (Int) := (wicketref11_Joined.f k l0_5).bind fun t347 => ((wicketref03_Scopes.f k t347).bind fun bt348 => (if bt348.2 = 0 then ((wicketref11_texts.f k bt348.1 l0_5).bind fun t352 => (wicketref11_Check.j0 k t352 a0_0 a0_1 a0_2 a0_3 a0_4 l0_5)) else (wicketref11_Check.j0 k false a0_0 a0_1 a0_2 a0_3 a0_4 l0_5)))
set_option maxHeartbeats 8000000 in
set_option maxRecDepth 100000 in
theorem wicketref11_Check.calls (k : Nat) (a0_0 : ByteArray) (a0_1 : ByteArray) (a0_2 : Int) (a0_3 : Bool) (a0_4 : ByteArray) (A0_5 : Option Addr) (c0_5 : Nat) (l0_5 : List ByteArray) (r : Int) (w : World) (hr0_5 : Kd.C Kd.string w A0_5 l0_5.length l0_5) (hc0_5 : l0_5.length ≤ c0_5) (h : wicketref11_Check.f k a0_0 a0_1 a0_2 a0_3 a0_4 l0_5 = some r) :
 Calls Tryz.prog 26 #[.agg #[.string a0_0, .string a0_1, .int .i64 a0_2, .bool a0_3, .string a0_4, .slice A0_5 l0_5.length c0_5]] w fun e w' => e = .returned (.int .i64 r) ∧ Below w.heap.size w w' := by
 have hu43 := Tryz.underlying43
 have HR0_5 := Aside0.mk hr0_5
 have HC0_5 := Aside0.mk hc0_5
 clear hr0_5 hc0_5
 have HB := Aside0.mk (Below.refl w.heap.size w)
 have H : ((wicketref11_Joined.f k l0_5).bind fun t347 => ((wicketref03_Scopes.f k t347).bind fun bt348 => (if bt348.2 = 0 then ((wicketref11_texts.f k bt348.1 l0_5).bind fun t352 => (wicketref11_Check.j0 k t352 a0_0 a0_1 a0_2 a0_3 a0_4 l0_5)) else (wicketref11_Check.j0 k false a0_0 a0_1 a0_2 a0_3 a0_4 l0_5)))) = some r := h
 clear h
 replace H := Option.bind_eq_some_iff.mp H
 obtain ⟨t347, A20, H⟩ := H
 replace H : ((wicketref03_Scopes.f k t347).bind fun bt348 => (if bt348.2 = 0 then ((wicketref11_texts.f k bt348.1 l0_5).bind fun t352 => (wicketref11_Check.j0 k t352 a0_0 a0_1 a0_2 a0_3 a0_4 l0_5)) else (wicketref11_Check.j0 k false a0_0 a0_1 a0_2 a0_3 a0_4 l0_5))) = some r := H
 have A2 := Aside0.mk A20
 clear A20
 replace H := Option.bind_eq_some_iff.mp H
 obtain ⟨⟨t348, t349⟩, A30, H⟩ := H
 replace H : (if t349 = 0 then ((wicketref11_texts.f k t348 l0_5).bind fun t352 => (wicketref11_Check.j0 k t352 a0_0 a0_1 a0_2 a0_3 a0_4 l0_5)) else (wicketref11_Check.j0 k false a0_0 a0_1 a0_2 a0_3 a0_4 l0_5)) = some r := H
 have A3 := Aside0.mk A30
 clear A30
 have HC4 := Aside0.mk H
 clear H
 go_enter Tryz.func26, Tryz.ntmps26
 go_upto_region 2 with (first | ((with_reducible refine gate_dst (N := 1) rfl ?_); refine box_event ?hg (N := 1) ?hd (cs := #[.string a0_0, .string a0_1, .int .i64 a0_2, .bool a0_3, .string a0_4, .slice A0_5 l0_5.length c0_5]) (t := 43) ?hr ?_; (case hd => rfl); (case hg => rfl); (case hr => (go_simp; done)); intro gb346 hg w5 hbox hb; have BK346 := Aside0.mk hbox; have GW346 := Aside0.mk ((by rw [hg]; exact (below_size HB.out) : w.heap.size ≤ gb346)); have GE346 := Aside0.mk ((by rw [hg]; exact (below_size HB.out) : w.heap.size ≤ gb346)); replace HB := Aside0.mk (below_step HB.out hb); clear hb hbox hg; obtain ⟨hcz6_0, hcz6_1, hcz6_2, hcz6_3, hcz6_4, hcz6_5, hfz6_0, hfz6_1, hfz6_2, hfz6_3, hfz6_4, hfz6_5⟩ := cz6_ BK346.out) | ((with_reducible refine gate_callee (f := 42) rfl ?_); refine goesL_ (some 10) rfl rfl Tryz.func42 (by kernel_rfl) rfl #[.slice A0_5 l0_5.length c0_5] rfl (by ((try simp only [List.map_toArray, List.map_cons, List.map_nil]); (rfl))) ?_; (with_reducible refine (wicketref11_Joined.calls k _ _ l0_5 t347 _ ?side1 ?side2 A2.out).mono ?_); (case side1 => repeat (exact (Kd.C_below HR0_5.out HB.out))); (case side2 => exact HC0_5.out); rintro e w' ⟨rfl, ⟨nd, rfl⟩⟩; refine ⟨_, rfl, ?_⟩) | ((with_reducible refine gate_callee (f := 43) rfl ?_); refine goesL_ (some 11) rfl rfl Tryz.func43 (by kernel_rfl) rfl #[.string t347] rfl (by ((try simp only [List.map_toArray, List.map_cons, List.map_nil]); (rfl))) ?_; (with_reducible refine (wicketref03_Scopes.calls k t347 t348 t349 _ A3.out).mono ?_); rintro e w7 ⟨v350, rfl, ho0, hb⟩; refine ⟨_, rfl, ?_⟩; have HO351 := Aside0.mk (Kd.R_lower ho0 (below_size (by (repeat (with_reducible first | exact HB.out | apply pw_below_drewN))))); replace BK346 := Aside0.mk (blk_below (g := gb346) (o := .cells #[.string a0_0, .string a0_1, .int .i64 a0_2, .bool a0_3, .string a0_4, .slice A0_5 l0_5.length c0_5] 43 (0, 0)) (by ((with_reducible repeat (refine blk_drewN ?_ _)); exact BK346.out)) hb); replace HB := Aside0.mk (below_step (by (repeat (with_reducible first | exact HB.out | apply pw_below_drewN))) hb); clear hb ho0))
 go_cut [5] (fun v5 wc => ∃ (kq : Nat) (x5_3 : Bool), v5 = .bool x5_3 ∧ Aside0 (wicketref11_Check.j0 kq x5_3 a0_0 a0_1 a0_2 a0_3 a0_4 l0_5 = some r) ∧ Aside0 (kq ≤ k) ∧ Aside0 (wc.heap[gb346]? = some (.cells #[.string a0_0, .string a0_1, .int .i64 a0_2, .bool a0_3, .string a0_4, (.slice A0_5 l0_5.length c0_5)] 43 (0, 0))) ∧ Aside0 (Below w.heap.size w wc))
 case first =>
  have H := HC4.out
  clear HC4
  by_cases c8 : t349 = 0
  · rw [if_pos c8] at H
    have c8b0 : (t349 == 0) = true := beq_iff_eq.mpr c8
    have c8b1 : (t349 != 0) = false := bne_eq_false_iff_eq.mpr c8
    clear c8
    replace H := Option.bind_eq_some_iff.mp H
    obtain ⟨t352, A90, H⟩ := H
    replace H : (wicketref11_Check.j0 k t352 a0_0 a0_1 a0_2 a0_3 a0_4 l0_5) = some r := H
    have A9 := Aside0.mk A90
    clear A90
    have H' := Aside0.mk H
    clear H
    obtain ⟨hcz10_0, hcz10_1, hcz10_2, hcz10_3, hcz10_4, hcz10_5, hfz10_0, hfz10_1, hfz10_2, hfz10_3, hfz10_4, hfz10_5⟩ := cz6_ BK346.out
    obtain ⟨Ao11, co11, eo11⟩ := Kd.R_slice HO351.out
    subst eo11
    go_wp2_with (first | (go_at_call 57; (with_reducible refine (wicketref11_texts.calls k _ _ t348 _ _ l0_5 t352 _ ?side1 ?side2 ?side3 ?side4 A9.out).mono ?_); (case side1 => repeat (exact (Kd.R_reads' HO351.out).2.2)); (case side2 => exact (Kd.R_reads' HO351.out).2.1); (case side3 => repeat (exact (Kd.C_below HR0_5.out HB.out))); (case side4 => exact HC0_5.out); rintro e w' ⟨rfl, ⟨nd, rfl⟩⟩))
    go_meet
    case rel => exact ⟨_, (t352), rfl, H', ⟨by (omega)⟩, ⟨by ((with_reducible repeat (refine blk_drewN ?_ _)); exact BK346.out)⟩, ⟨by (repeat (with_reducible first | exact HB.out | apply pw_below_drewN))⟩⟩
  · rw [if_neg c8] at H
    have c8b0 : (t349 == 0) = false := beq_eq_false_iff_ne.mpr c8
    have c8b1 : (t349 != 0) = true := bne_iff_ne.mpr c8
    have H' := Aside0.mk H
    clear H
    go_wp2
    go_meet
    case rel => exact ⟨_, (false), rfl, H', ⟨by (omega)⟩, ⟨BK346.out⟩, ⟨HB.out⟩⟩
 case rest =>
  clear HC4 hcz6_0 hcz6_1 hcz6_2 hcz6_3 hcz6_4 hcz6_5 hfz6_0 hfz6_1 hfz6_2 hfz6_3 hfz6_4 hfz6_5
  obtain ⟨kq, x5_3, rfl, HA, HJ3, BK346, HB⟩ := hcut
  cases kq with
  | zero => exact absurd HA.out (by simp [wicketref11_Check.j0])
  | succ kj3 =>
   have H := HA.out
   clear HA
   simp only [wicketref11_Check.j0] at H
   have HC12 := Aside0.mk H
   clear H
   go_upto_region 3 with (fail)
   go_cut [6] (fun v6 wc => ∃ (kq : Nat) (x6_11 : Bool), v6 = .bool x6_11 ∧ Aside0 (wicketref11_Check.j1 kq x5_3 x6_11 a0_0 a0_1 a0_2 a0_3 a0_4 l0_5 = some r) ∧ Aside0 (kq ≤ kj3) ∧ Aside0 (wc.heap[gb346]? = some (.cells #[.string a0_0, .string a0_1, .int .i64 a0_2, .bool a0_3, .string a0_4, (.slice A0_5 l0_5.length c0_5)] 43 (0, 0))) ∧ Aside0 (Below w.heap.size w wc))
   case first =>
    have H := HC12.out
    clear HC12
    by_cases c13 : a0_3 = true
    · subst c13
      have H1 : (if a0_2 ≥ 2 then (wicketref11_Check.j1 kj3 x5_3 (a0_1.toList != ([] : List UInt8)) a0_0 a0_1 a0_2 true a0_4 l0_5) else (wicketref11_Check.j1 kj3 x5_3 false a0_0 a0_1 a0_2 true a0_4 l0_5)) = some r := by rw [if_pos rfl] at H; exact H
      clear H
      have H := H1
      clear H1
      by_cases c14 : a0_2 ≥ 2
      · rw [if_pos c14] at H
        have c14b0 : decide (2 ≤ a0_2) = true := decide_eq_true c14
        clear c14
        have H' := Aside0.mk H
        clear H
        obtain ⟨hcz15_0, hcz15_1, hcz15_2, hcz15_3, hcz15_4, hcz15_5, hfz15_0, hfz15_1, hfz15_2, hfz15_3, hfz15_4, hfz15_5⟩ := cz6_ BK346.out
        go_wp2
        go_meet
        case rel => exact ⟨_, ((a0_1.toList != ([] : List UInt8))), (by (simp; (generalize ByteArray.toList _ = z_); cases z_ <;> rfl)), H', ⟨by have := HJ3.out; (omega)⟩, ⟨BK346.out⟩, ⟨HB.out⟩⟩
      · rw [if_neg c14] at H
        have c14b0 : decide (2 ≤ a0_2) = false := decide_eq_false c14
        clear c14
        have H' := Aside0.mk H
        clear H
        obtain ⟨hcz16_0, hcz16_1, hcz16_2, hcz16_3, hcz16_4, hcz16_5, hfz16_0, hfz16_1, hfz16_2, hfz16_3, hfz16_4, hfz16_5⟩ := cz6_ BK346.out
        go_wp2
        go_meet
        case rel => exact ⟨_, (false), rfl, H', ⟨by have := HJ3.out; (omega)⟩, ⟨BK346.out⟩, ⟨HB.out⟩⟩
    · replace c13 := Bool.eq_false_iff.mpr c13
      subst c13
      have H1 : (wicketref11_Check.j1 kj3 x5_3 true a0_0 a0_1 a0_2 false a0_4 l0_5) = some r := by rw [if_neg (show ¬ (false = true) by decide)] at H; exact H
      clear H
      have H := H1
      clear H1
      have H' := Aside0.mk H
      clear H
      obtain ⟨hcz17_0, hcz17_1, hcz17_2, hcz17_3, hcz17_4, hcz17_5, hfz17_0, hfz17_1, hfz17_2, hfz17_3, hfz17_4, hfz17_5⟩ := cz6_ BK346.out
      go_wp2
      go_meet
      case rel => exact ⟨_, (true), rfl, H', ⟨by have := HJ3.out; (omega)⟩, ⟨BK346.out⟩, ⟨HB.out⟩⟩
   case rest =>
    clear HC12
    obtain ⟨kq, x6_11, rfl, HA, HJ11, BK346, HB⟩ := hcut
    cases kq with
    | zero => exact absurd HA.out (by simp [wicketref11_Check.j1])
    | succ kj11 =>
     have H := HA.out
     clear HA
     simp only [wicketref11_Check.j1] at H
     replace H := Option.bind_eq_some_iff.mp H
     obtain ⟨t353, A180, H⟩ := H
     replace H : (if t353 = true then ((wicketref11_bytes.f kj11 a0_1 32 126 0 256).bind fun t354 => (if t354 = true then (if a0_2 ≥ 1 then (if a0_2 ≤ 3 then (if x6_11 = true then ((wicketref11_url.f kj11 a0_0 a0_1 a0_2 a0_3 a0_4 l0_5).bind fun t355 => (if t355 = true then (if x5_3 = true then (some 0) else (some 111)) else (some 111))) else (some 111)) else (some 111)) else (some 111)) else (some 111))) else (some 111)) = some r := H
     have A18 := Aside0.mk A180
     clear A180
     by_cases c19 : t353 = true
     · subst c19
       have H1 : ((wicketref11_bytes.f kj11 a0_1 32 126 0 256).bind fun t354 => (if t354 = true then (if a0_2 ≥ 1 then (if a0_2 ≤ 3 then (if x6_11 = true then ((wicketref11_url.f kj11 a0_0 a0_1 a0_2 a0_3 a0_4 l0_5).bind fun t355 => (if t355 = true then (if x5_3 = true then (some 0) else (some 111)) else (some 111))) else (some 111)) else (some 111)) else (some 111)) else (some 111))) = some r := by rw [if_pos rfl] at H; exact H
       clear H
       have H := H1
       clear H1
       replace H := Option.bind_eq_some_iff.mp H
       obtain ⟨t354, A200, H⟩ := H
       replace H : (if t354 = true then (if a0_2 ≥ 1 then (if a0_2 ≤ 3 then (if x6_11 = true then ((wicketref11_url.f kj11 a0_0 a0_1 a0_2 a0_3 a0_4 l0_5).bind fun t355 => (if t355 = true then (if x5_3 = true then (some 0) else (some 111)) else (some 111))) else (some 111)) else (some 111)) else (some 111)) else (some 111)) = some r := H
       have A20 := Aside0.mk A200
       clear A200
       by_cases c21 : t354 = true
       · subst c21
         have H1 : (if a0_2 ≥ 1 then (if a0_2 ≤ 3 then (if x6_11 = true then ((wicketref11_url.f kj11 a0_0 a0_1 a0_2 a0_3 a0_4 l0_5).bind fun t355 => (if t355 = true then (if x5_3 = true then (some 0) else (some 111)) else (some 111))) else (some 111)) else (some 111)) else (some 111)) = some r := by rw [if_pos rfl] at H; exact H
         clear H
         have H := H1
         clear H1
         by_cases c22 : a0_2 ≥ 1
         · rw [if_pos c22] at H
           have c22b0 : decide (1 ≤ a0_2) = true := decide_eq_true c22
           clear c22
           by_cases c23 : a0_2 ≤ 3
           · rw [if_pos c23] at H
             have c23b0 : decide (a0_2 ≤ 3) = true := decide_eq_true c23
             clear c23
             by_cases c24 : x6_11 = true
             · subst c24
               have H1 : ((wicketref11_url.f kj11 a0_0 a0_1 a0_2 a0_3 a0_4 l0_5).bind fun t355 => (if t355 = true then (if x5_3 = true then (some 0) else (some 111)) else (some 111))) = some r := by rw [if_pos rfl] at H; exact H
               clear H
               have H := H1
               clear H1
               replace H := Option.bind_eq_some_iff.mp H
               obtain ⟨t355, A250, H⟩ := H
               replace H : (if t355 = true then (if x5_3 = true then (some 0) else (some 111)) else (some 111)) = some r := H
               have A25 := Aside0.mk A250
               clear A250
               by_cases c26 : t355 = true
               · subst c26
                 have H1 : (if x5_3 = true then (some 0) else (some 111)) = some r := by rw [if_pos rfl] at H; exact H
                 clear H
                 have H := H1
                 clear H1
                 by_cases c27 : x5_3 = true
                 · subst c27
                   have H1 : (some 0) = some r := by rw [if_pos rfl] at H; exact H
                   clear H
                   have H := H1
                   clear H1
                   obtain rfl := Option.some.inj H
                   obtain ⟨hcz28_0, hcz28_1, hcz28_2, hcz28_3, hcz28_4, hcz28_5, hfz28_0, hfz28_1, hfz28_2, hfz28_3, hfz28_4, hfz28_5⟩ := cz6_ BK346.out
                   go_wp2_with (first | ((with_reducible refine gate_callee (f := 58) rfl ?_); refine goesL_ (some 37) rfl rfl Tryz.func58 (by kernel_rfl) rfl #[.string a0_0, .int .u8 33, .int .u8 126, .int .i64 1, .int .i64 64] rfl (by ((try simp only [List.map_toArray, List.map_cons, List.map_nil]); (rfl))) ?_; (with_reducible refine (wicketref11_bytes.calls kj11 a0_0 33 126 1 64 true _ A18.out).mono ?_); rintro e w' ⟨rfl, ⟨nd, rfl⟩⟩; refine ⟨_, rfl, ?_⟩) | (go_at_call 58; (with_reducible refine (wicketref11_bytes.calls kj11 a0_1 32 126 0 256 true _ A20.out).mono ?_); rintro e w' ⟨rfl, ⟨nd, rfl⟩⟩) | (go_at_call 59; (with_reducible refine (wicketref11_url.calls kj11 a0_0 a0_1 a0_2 a0_3 a0_4 _ _ l0_5 true _ ?side1 ?side2 A25.out).mono ?_); (case side1 => repeat (exact (Kd.C_below HR0_5.out (by (repeat (with_reducible first | exact HB.out | apply pw_below_drewN)))))); (case side2 => exact HC0_5.out); rintro e w29 ⟨rfl, hb⟩; replace BK346 := Aside0.mk (blk_below (g := gb346) (o := .cells #[.string a0_0, .string a0_1, .int .i64 a0_2, .bool a0_3, .string a0_4, .slice A0_5 l0_5.length c0_5] 43 (0, 0)) (by ((with_reducible repeat (refine blk_drewN ?_ _)); exact BK346.out)) hb); replace HB := Aside0.mk (below_step (by (repeat (with_reducible first | exact HB.out | apply pw_below_drewN))) hb); clear hb))
                   go_ret
                   exact ⟨by (rfl), by (with_reducible exact HB.out)⟩
                 · replace c27 := Bool.eq_false_iff.mpr c27
                   subst c27
                   have H1 : (some 111) = some r := by rw [if_neg (show ¬ (false = true) by decide)] at H; exact H
                   clear H
                   have H := H1
                   clear H1
                   obtain rfl := Option.some.inj H
                   obtain ⟨hcz30_0, hcz30_1, hcz30_2, hcz30_3, hcz30_4, hcz30_5, hfz30_0, hfz30_1, hfz30_2, hfz30_3, hfz30_4, hfz30_5⟩ := cz6_ BK346.out
                   go_wp2_with (first | ((with_reducible refine gate_callee (f := 58) rfl ?_); refine goesL_ (some 37) rfl rfl Tryz.func58 (by kernel_rfl) rfl #[.string a0_0, .int .u8 33, .int .u8 126, .int .i64 1, .int .i64 64] rfl (by ((try simp only [List.map_toArray, List.map_cons, List.map_nil]); (rfl))) ?_; (with_reducible refine (wicketref11_bytes.calls kj11 a0_0 33 126 1 64 true _ A18.out).mono ?_); rintro e w' ⟨rfl, ⟨nd, rfl⟩⟩; refine ⟨_, rfl, ?_⟩) | (go_at_call 58; (with_reducible refine (wicketref11_bytes.calls kj11 a0_1 32 126 0 256 true _ A20.out).mono ?_); rintro e w' ⟨rfl, ⟨nd, rfl⟩⟩) | (go_at_call 59; (with_reducible refine (wicketref11_url.calls kj11 a0_0 a0_1 a0_2 a0_3 a0_4 _ _ l0_5 true _ ?side1 ?side2 A25.out).mono ?_); (case side1 => repeat (exact (Kd.C_below HR0_5.out (by (repeat (with_reducible first | exact HB.out | apply pw_below_drewN)))))); (case side2 => exact HC0_5.out); rintro e w31 ⟨rfl, hb⟩; replace BK346 := Aside0.mk (blk_below (g := gb346) (o := .cells #[.string a0_0, .string a0_1, .int .i64 a0_2, .bool a0_3, .string a0_4, .slice A0_5 l0_5.length c0_5] 43 (0, 0)) (by ((with_reducible repeat (refine blk_drewN ?_ _)); exact BK346.out)) hb); replace HB := Aside0.mk (below_step (by (repeat (with_reducible first | exact HB.out | apply pw_below_drewN))) hb); clear hb))
                   go_ret
                   exact ⟨by (rfl), by (with_reducible exact HB.out)⟩
               · replace c26 := Bool.eq_false_iff.mpr c26
                 subst c26
                 have H1 : (some 111) = some r := by rw [if_neg (show ¬ (false = true) by decide)] at H; exact H
                 clear H
                 have H := H1
                 clear H1
                 obtain rfl := Option.some.inj H
                 obtain ⟨hcz32_0, hcz32_1, hcz32_2, hcz32_3, hcz32_4, hcz32_5, hfz32_0, hfz32_1, hfz32_2, hfz32_3, hfz32_4, hfz32_5⟩ := cz6_ BK346.out
                 go_wp2_with (first | ((with_reducible refine gate_callee (f := 58) rfl ?_); refine goesL_ (some 37) rfl rfl Tryz.func58 (by kernel_rfl) rfl #[.string a0_0, .int .u8 33, .int .u8 126, .int .i64 1, .int .i64 64] rfl (by ((try simp only [List.map_toArray, List.map_cons, List.map_nil]); (rfl))) ?_; (with_reducible refine (wicketref11_bytes.calls kj11 a0_0 33 126 1 64 true _ A18.out).mono ?_); rintro e w' ⟨rfl, ⟨nd, rfl⟩⟩; refine ⟨_, rfl, ?_⟩) | (go_at_call 58; (with_reducible refine (wicketref11_bytes.calls kj11 a0_1 32 126 0 256 true _ A20.out).mono ?_); rintro e w' ⟨rfl, ⟨nd, rfl⟩⟩) | (go_at_call 59; (with_reducible refine (wicketref11_url.calls kj11 a0_0 a0_1 a0_2 a0_3 a0_4 _ _ l0_5 false _ ?side1 ?side2 A25.out).mono ?_); (case side1 => repeat (exact (Kd.C_below HR0_5.out (by (repeat (with_reducible first | exact HB.out | apply pw_below_drewN)))))); (case side2 => exact HC0_5.out); rintro e w33 ⟨rfl, hb⟩; replace BK346 := Aside0.mk (blk_below (g := gb346) (o := .cells #[.string a0_0, .string a0_1, .int .i64 a0_2, .bool a0_3, .string a0_4, .slice A0_5 l0_5.length c0_5] 43 (0, 0)) (by ((with_reducible repeat (refine blk_drewN ?_ _)); exact BK346.out)) hb); replace HB := Aside0.mk (below_step (by (repeat (with_reducible first | exact HB.out | apply pw_below_drewN))) hb); clear hb))
                 go_ret
                 exact ⟨by (rfl), by (with_reducible exact HB.out)⟩
             · replace c24 := Bool.eq_false_iff.mpr c24
               subst c24
               have H1 : (some 111) = some r := by rw [if_neg (show ¬ (false = true) by decide)] at H; exact H
               clear H
               have H := H1
               clear H1
               obtain rfl := Option.some.inj H
               obtain ⟨hcz34_0, hcz34_1, hcz34_2, hcz34_3, hcz34_4, hcz34_5, hfz34_0, hfz34_1, hfz34_2, hfz34_3, hfz34_4, hfz34_5⟩ := cz6_ BK346.out
               go_wp2_with (first | ((with_reducible refine gate_callee (f := 58) rfl ?_); refine goesL_ (some 37) rfl rfl Tryz.func58 (by kernel_rfl) rfl #[.string a0_0, .int .u8 33, .int .u8 126, .int .i64 1, .int .i64 64] rfl (by ((try simp only [List.map_toArray, List.map_cons, List.map_nil]); (rfl))) ?_; (with_reducible refine (wicketref11_bytes.calls kj11 a0_0 33 126 1 64 true _ A18.out).mono ?_); rintro e w' ⟨rfl, ⟨nd, rfl⟩⟩; refine ⟨_, rfl, ?_⟩) | (go_at_call 58; (with_reducible refine (wicketref11_bytes.calls kj11 a0_1 32 126 0 256 true _ A20.out).mono ?_); rintro e w' ⟨rfl, ⟨nd, rfl⟩⟩))
               go_ret
               exact ⟨by (rfl), by (repeat (with_reducible first | exact HB.out | apply pw_below_drewN))⟩
           · rw [if_neg c23] at H
             have c23b0 : decide (a0_2 ≤ 3) = false := decide_eq_false c23
             clear c23
             obtain rfl := Option.some.inj H
             obtain ⟨hcz35_0, hcz35_1, hcz35_2, hcz35_3, hcz35_4, hcz35_5, hfz35_0, hfz35_1, hfz35_2, hfz35_3, hfz35_4, hfz35_5⟩ := cz6_ BK346.out
             go_wp2_with (first | ((with_reducible refine gate_callee (f := 58) rfl ?_); refine goesL_ (some 37) rfl rfl Tryz.func58 (by kernel_rfl) rfl #[.string a0_0, .int .u8 33, .int .u8 126, .int .i64 1, .int .i64 64] rfl (by ((try simp only [List.map_toArray, List.map_cons, List.map_nil]); (rfl))) ?_; (with_reducible refine (wicketref11_bytes.calls kj11 a0_0 33 126 1 64 true _ A18.out).mono ?_); rintro e w' ⟨rfl, ⟨nd, rfl⟩⟩; refine ⟨_, rfl, ?_⟩) | (go_at_call 58; (with_reducible refine (wicketref11_bytes.calls kj11 a0_1 32 126 0 256 true _ A20.out).mono ?_); rintro e w' ⟨rfl, ⟨nd, rfl⟩⟩))
             go_ret
             exact ⟨by (rfl), by (repeat (with_reducible first | exact HB.out | apply pw_below_drewN))⟩
         · rw [if_neg c22] at H
           have c22b0 : decide (1 ≤ a0_2) = false := decide_eq_false c22
           clear c22
           obtain rfl := Option.some.inj H
           obtain ⟨hcz36_0, hcz36_1, hcz36_2, hcz36_3, hcz36_4, hcz36_5, hfz36_0, hfz36_1, hfz36_2, hfz36_3, hfz36_4, hfz36_5⟩ := cz6_ BK346.out
           go_wp2_with (first | ((with_reducible refine gate_callee (f := 58) rfl ?_); refine goesL_ (some 37) rfl rfl Tryz.func58 (by kernel_rfl) rfl #[.string a0_0, .int .u8 33, .int .u8 126, .int .i64 1, .int .i64 64] rfl (by ((try simp only [List.map_toArray, List.map_cons, List.map_nil]); (rfl))) ?_; (with_reducible refine (wicketref11_bytes.calls kj11 a0_0 33 126 1 64 true _ A18.out).mono ?_); rintro e w' ⟨rfl, ⟨nd, rfl⟩⟩; refine ⟨_, rfl, ?_⟩) | (go_at_call 58; (with_reducible refine (wicketref11_bytes.calls kj11 a0_1 32 126 0 256 true _ A20.out).mono ?_); rintro e w' ⟨rfl, ⟨nd, rfl⟩⟩))
           go_ret
           exact ⟨by (rfl), by (repeat (with_reducible first | exact HB.out | apply pw_below_drewN))⟩
       · replace c21 := Bool.eq_false_iff.mpr c21
         subst c21
         have H1 : (some 111) = some r := by rw [if_neg (show ¬ (false = true) by decide)] at H; exact H
         clear H
         have H := H1
         clear H1
         obtain rfl := Option.some.inj H
         obtain ⟨hcz37_0, hcz37_1, hcz37_2, hcz37_3, hcz37_4, hcz37_5, hfz37_0, hfz37_1, hfz37_2, hfz37_3, hfz37_4, hfz37_5⟩ := cz6_ BK346.out
         go_wp2_with (first | ((with_reducible refine gate_callee (f := 58) rfl ?_); refine goesL_ (some 37) rfl rfl Tryz.func58 (by kernel_rfl) rfl #[.string a0_0, .int .u8 33, .int .u8 126, .int .i64 1, .int .i64 64] rfl (by ((try simp only [List.map_toArray, List.map_cons, List.map_nil]); (rfl))) ?_; (with_reducible refine (wicketref11_bytes.calls kj11 a0_0 33 126 1 64 true _ A18.out).mono ?_); rintro e w' ⟨rfl, ⟨nd, rfl⟩⟩; refine ⟨_, rfl, ?_⟩) | (go_at_call 58; (with_reducible refine (wicketref11_bytes.calls kj11 a0_1 32 126 0 256 false _ A20.out).mono ?_); rintro e w' ⟨rfl, ⟨nd, rfl⟩⟩))
         go_ret
         exact ⟨by (rfl), by (repeat (with_reducible first | exact HB.out | apply pw_below_drewN))⟩
     · replace c19 := Bool.eq_false_iff.mpr c19
       subst c19
       have H1 : (some 111) = some r := by rw [if_neg (show ¬ (false = true) by decide)] at H; exact H
       clear H
       have H := H1
       clear H1
       obtain rfl := Option.some.inj H
       obtain ⟨hcz38_0, hcz38_1, hcz38_2, hcz38_3, hcz38_4, hcz38_5, hfz38_0, hfz38_1, hfz38_2, hfz38_3, hfz38_4, hfz38_5⟩ := cz6_ BK346.out
       go_wp2_with (first | ((with_reducible refine gate_callee (f := 58) rfl ?_); refine goesL_ (some 37) rfl rfl Tryz.func58 (by kernel_rfl) rfl #[.string a0_0, .int .u8 33, .int .u8 126, .int .i64 1, .int .i64 64] rfl (by ((try simp only [List.map_toArray, List.map_cons, List.map_nil]); (rfl))) ?_; (with_reducible refine (wicketref11_bytes.calls kj11 a0_0 33 126 1 64 false _ A18.out).mono ?_); rintro e w' ⟨rfl, ⟨nd, rfl⟩⟩; refine ⟨_, rfl, ?_⟩))
       go_ret
       exact ⟨by (rfl), by (repeat (with_reducible first | exact HB.out | apply pw_below_drewN))⟩
end Go.Proofs.YtmimipgmhgalaaaGreatDoor.PAll
end
section
namespace Go.Proofs.YtmimipgmhgalaaaGreatDoor.Pure
open Go.RowKit Go.Proofs.YtmimipgmhgalaaaGreatDoorW.PrintWords Go.Proofs.YtmimipgmhgalaaaGreatDoor.Plain Go.Proofs.YtmimipgmhgalaaaGreatDoor.Spec Go.Proofs.YtmimipgmhgalaaaGreatDoor.PAll
set_option linter.unusedSimpArgs false
set_option linter.unusedVariables false
theorem bs_app (a b : List UInt8) : bs a ++ bs b = bs (a ++ b) := by
  have : (bs a ++ bs b).data.toList = (bs (a ++ b)).data.toList := by simp [bs]
  rw [← bs_of (bs a ++ bs b), this, bs_of]
theorem bytes_loop (s : ByteArray) (hs : s.size ≤ 140737488355328) (lo up least most : Nat) : ∀ (m i : Nat), i + m = s.size →
    Ev (fun k => wicketref11_bytes.l0 k s (lo : Int) (up : Int) (least : Int) (most : Int) (i : Int)) ((s.data.toList.drop i).all (fun c => decide (lo ≤ c.toNat) && decide (c.toNat ≤ up)) && (decide (least ≤ s.size) && decide (s.size ≤ most))) := by
  intro m
  induction m with
  | zero =>
    intro i hi
    rw [List.drop_eq_nil_of_le (by rw [data_len]; omega), List.all_nil, Bool.true_and]
    by_cases h : least ≤ s.size
    · refine Ev.step (f := fun _ => some (decide ((s.size : Int) ≤ (most : Int)))) (fun k => ?_) (Ev.eq (Ev.now _) ?_)
      · simp only [wicketref11_bytes.l0]; rw [if_neg (by omega), if_pos (by omega)]
      · rw [decide_eq_true h, Bool.true_and, decide_eq_decide]; omega
    · refine Ev.step (f := fun _ => some false) (fun k => ?_) (Ev.eq (Ev.now _) ?_)
      · simp only [wicketref11_bytes.l0]; rw [if_neg (by omega), if_neg (by omega)]
      · rw [decide_eq_false h, Bool.false_and]
  | succ m ih =>
    intro i hi
    have hlt : i < s.size := by omega
    have hbt := btC s i hlt
    rw [drop_at s i hlt, List.all_cons]
    have ih1 := ih (i + 1) (by omega)
    generalize s[i] = c at *
    by_cases h1 : lo ≤ c.toNat
    · by_cases h2 : c.toNat ≤ up
      · rw [decide_eq_true h1, decide_eq_true h2, Bool.true_and, Bool.true_and]
        refine Ev.step (fun k => ?_) ih1
        simp only [wicketref11_bytes.l0]
        rw [if_pos (by omega), if_pos (by omega), hbt, if_neg (by omega), if_neg (by omega), w64 (by omega) (by omega)]
        rfl
      · rw [decide_eq_false h2, Bool.and_false, Bool.false_and, Bool.false_and]
        refine Ev.step (f := fun _ => some false) (fun k => ?_) (Ev.now _)
        simp only [wicketref11_bytes.l0]
        rw [if_pos (by omega), if_pos (by omega), hbt, if_neg (by omega), if_pos (by omega)]
    · rw [decide_eq_false h1, Bool.false_and, Bool.false_and, Bool.false_and]
      refine Ev.step (f := fun _ => some false) (fun k => ?_) (Ev.now _)
      simp only [wicketref11_bytes.l0]
      rw [if_pos (by omega), if_pos (by omega), hbt, if_pos (by omega)]
theorem bytes_ev (s : ByteArray) (hs : s.size ≤ 140737488355328) (least most lo : Nat) : Ev (fun k => wicketref11_bytes.f k s (lo : Int) 126 (least : Int) (most : Int)) (withinL s.data.toList least most lo) := by
  unfold wicketref11_bytes.f withinL
  have := bytes_loop s hs lo 126 least most s.size 0 (by omega)
  rw [data_len]
  exact this
theorem texts_loop (a b : List ByteArray) (ha : a.length ≤ 140737488355328) (hab : a.length = b.length) : ∀ (m i : Nat), i + m = a.length →
    Ev (fun k => wicketref11_texts.l0 k a b (i : Int)) (decide (a.drop i = b.drop i)) := by
  intro m
  induction m with
  | zero =>
    intro i hi
    refine Ev.step (f := fun _ => some true) (fun k => ?_) (Ev.eq (Ev.now _) ?_)
    · simp only [wicketref11_texts.l0]; rw [if_neg (by omega)]
    · rw [List.drop_eq_nil_of_le (by omega), List.drop_eq_nil_of_le (by omega)]; rfl
  | succ m ih =>
    intro i hi
    have hlt : i < a.length := by omega
    have hlb : i < b.length := by omega
    rw [drop_cons a i hlt, drop_cons b i hlb]
    by_cases h : a[i] = b[i]
    · refine Ev.step (fun k => ?_) (Ev.eq (ih (i + 1) (by omega)) ?_)
      · simp only [wicketref11_texts.l0]
        rw [if_pos (by omega), if_pos (by omega), if_pos (by omega), rdOf_get _ _ _ hlt, rdOf_get _ _ _ hlb, if_pos (by rw [h]), w64 (by omega) (by omega)]
        rfl
      · rw [decide_eq_decide, List.cons.injEq]
        exact ⟨fun e => ⟨h, e⟩, fun e => e.2⟩
    · refine Ev.step (f := fun _ => some false) (fun k => ?_) (Ev.eq (Ev.now _) ?_)
      · simp only [wicketref11_texts.l0]
        rw [if_pos (by omega), if_pos (by omega), if_pos (by omega), rdOf_get _ _ _ hlt, rdOf_get _ _ _ hlb, if_neg (fun e => h (by rw [← bs_of a[i], ← bs_of b[i], ← toList_data, ← toList_data, e]))]
      · rw [decide_eq_false (fun e => h (List.cons.inj e).1)]
theorem texts_ev (a b : List ByteArray) (ha : a.length ≤ 140737488355328) : Ev (fun k => wicketref11_texts.f k a b) (decide (a = b)) := by
  unfold wicketref11_texts.f
  by_cases h : a.length = b.length
  · refine Ev.pos (by omega) ?_
    exact texts_loop a b ha h a.length 0 (by omega)
  · refine Ev.neg (by omega) (Ev.eq (Ev.now _) ?_)
    rw [decide_eq_false (fun e => h (by rw [e]))]
theorem joined_tail (l : List ByteArray) (hn : l.length ≤ 140737488355328) : ∀ (m i : Nat) (a : List UInt8), i + m = l.length → 0 < i →
    a.length + (Lib.joinTail [32] ((l.drop i).map (·.data.toList))).length ≤ 140737488355328 →
    Ev (fun k => wicketref11_Joined.l0 k l (bs a) (i : Int)) (bs (a ++ Lib.joinTail [32] ((l.drop i).map (·.data.toList)))) := by
  intro m
  induction m with
  | zero =>
    intro i a hi h0 hl
    refine Ev.step (f := fun _ => some (bs a)) (fun k => ?_) (Ev.eq (Ev.now _) ?_)
    · simp only [wicketref11_Joined.l0]; rw [if_neg (by omega)]
    · rw [List.drop_eq_nil_of_le (by omega)]; simp [Lib.joinTail]
  | succ m ih =>
    intro i a hi h0 hl
    have hlt : i < l.length := by omega
    have e : Lib.joinTail [32] ((l.drop i).map (·.data.toList)) = [32] ++ l[i].data.toList ++ Lib.joinTail [32] ((l.drop (i + 1)).map (·.data.toList)) := by
      rw [drop_cons l i hlt, List.map_cons]
      unfold Lib.joinTail
      rw [List.map_cons, List.flatten_cons]
    rw [e] at hl ⊢
    simp only [List.length_append, List.length_cons, List.length_nil] at hl
    have hsz : l[i].size = l[i].data.toList.length := (data_len _).symm
    refine Ev.step (fun k => ?_) (Ev.eq (ih (i + 1) (a ++ ([32] ++ l[i].data.toList)) (by omega) (by omega) (by simp only [List.length_append, List.length_cons, List.length_nil]; omega)) ?_)
    · simp only [wicketref11_Joined.l0]
      rw [if_pos (by omega), if_pos (by omega), if_pos (by rw [bs_size]; omega), if_pos (by omega), rdOf_get _ _ _ hlt]
      have e2 : (bs a ++ (⟨#[32]⟩ : ByteArray)) = bs (a ++ [32]) := bs_app a [32]
      rw [e2, if_pos (by rw [bs_size]; simp only [List.length_append, List.length_cons, List.length_nil]; omega), w64 (by omega) (by omega)]
      conv => lhs; rw [← bs_of l[i], bs_app, List.append_assoc]
      rfl
    · congr 1; simp
theorem joined_ev (l : List ByteArray) (hn : l.length ≤ 140737488355328) (hj : (joinedL l).length ≤ 140737488355328) : Ev (fun k => wicketref11_Joined.f k l) (bs (joinedL l)) := by
  unfold wicketref11_Joined.f
  cases l with
  | nil =>
    refine Ev.step (f := fun _ => some (⟨#[]⟩ : ByteArray)) (fun k => ?_) (Ev.eq (Ev.now _) rfl)
    simp only [wicketref11_Joined.l0]; rw [if_neg (by simp)]
  | cons x r =>
    have e : joinedL (x :: r) = x.data.toList ++ Lib.joinTail [32] (((x :: r).drop 1).map (·.data.toList)) := by
      unfold joinedL; rw [List.map_cons, Lib.join_cons]; rfl
    rw [e] at hj ⊢
    simp only [List.length_append] at hj
    have hsz : x.size = x.data.toList.length := (data_len _).symm
    refine Ev.step (fun k => ?_) (joined_tail (x :: r) hn r.length 1 x.data.toList (by simp; omega) (by omega) hj)
    simp only [wicketref11_Joined.l0]
    rw [if_pos (by first | (simp; done) | (simp; omega)), if_neg (by omega), if_pos (by omega), show rdOf ByteArray.empty (x :: r) (0 : Int) = x from rfl, if_pos (by rw [show (⟨#[]⟩ : ByteArray).size = 0 from rfl]; omega), w64 (by omega) (by omega), show ((⟨#[]⟩ : ByteArray) ++ x) = bs x.data.toList from by
      have := bs_app [] x.data.toList
      rw [bs_of, List.nil_append] at this
      exact this]
    rfl
end Go.Proofs.YtmimipgmhgalaaaGreatDoor.Pure
end
section
namespace Go.Proofs.YtmimipgmhgalaaaGreatDoor.Pure
open Go.RowKit Go.Proofs.YtmimipgmhgalaaaGreatDoorW.PrintWords Go.Proofs.YtmimipgmhgalaaaGreatDoor.Plain Go.Proofs.YtmimipgmhgalaaaGreatDoor.Spec Go.Proofs.YtmimipgmhgalaaaGreatDoor.PAll
set_option linter.unusedSimpArgs false
set_option linter.unusedVariables false
theorem letter_eq (c : UInt8) : wicketref03_Letter.f (c.toNat : Int) = some (letterB c) := by
  unfold wicketref03_Letter.f letterB
  by_cases h1 : (c.toNat : Int) = 33
  · rw [if_pos h1, decide_eq_true (by omega)]
  · rw [if_neg h1]
    by_cases h2 : (c.toNat : Int) ≥ 35
    · rw [if_pos h2]
      by_cases h3 : (c.toNat : Int) ≤ 91
      · rw [if_pos h3, decide_eq_true (by omega)]
      · rw [if_neg h3]
        by_cases h4 : (c.toNat : Int) ≥ 93
        · rw [if_pos h4]
          congr 1
          rw [decide_eq_decide]
          omega
        · rw [if_neg h4, decide_eq_false (by omega)]
    · rw [if_neg h2, if_neg (by omega), decide_eq_false (by omega)]
theorem put_done (L : List (List UInt8)) (s : List UInt8) (hL : L.length ≤ 20000) : ∀ (m i : Nat) (out : List (List UInt8)), i + m = L.length → s ∉ L.drop i → out.length ≤ 30000 + i →
    Ev (fun k => wicketref03_put.l0 k (L.map bs) (bs s) (out.map bs) true (i : Int)) ((out ++ L.drop i).map bs) := by
  have hal : (L.map bs).length = L.length := List.length_map ..
  intro m
  induction m with
  | zero =>
    intro i out hi hs ho
    refine Ev.step (f := fun _ => some (out.map bs)) (fun k => ?_) (Ev.eq (Ev.now _) ?_)
    · simp only [wicketref03_put.l0]
      rw [if_neg (by omega), if_pos trivial]
    · rw [List.drop_eq_nil_of_le (by omega), List.append_nil]
  | succ m ih =>
    intro i out hi hs ho
    have hlt : i < L.length := by omega
    have hol : (out.map bs).length = out.length := List.length_map ..
    have hrd := rd_bs L i hlt
    rw [drop_cons L i hlt] at hs ⊢
    simp only [List.mem_cons, not_or] at hs
    have key := ih (i + 1) (out ++ [L[i]]) (by omega) hs.2 (by rw [List.length_append, List.length_singleton]; omega)
    rw [List.append_assoc, List.singleton_append] at key
    generalize L[i] = x at *
    have hne : ¬ (bs x).toList = (bs s).toList := by rw [bs_toList, bs_toList]; exact fun e => hs.1 e.symm
    refine Ev.step (fun k => ?_) key
    simp only [wicketref03_put.l0]
    rw [if_pos (by omega), if_pos (by omega), hrd, if_neg hne, if_pos trivial, if_pos (by omega), w64 (by omega) (by omega), List.map_append]
    rfl
theorem put_find (L : List (List UInt8)) (s : List UInt8) (hL : L.length ≤ 20000) (hr : Rising L) : ∀ (m i : Nat), i + m = L.length →
    Ev (fun k => wicketref03_put.l0 k (L.map bs) (bs s) ((L.take i).map bs) false (i : Int)) ((L.take i ++ putL (L.drop i) s).map bs) := by
  have hal : (L.map bs).length = L.length := List.length_map ..
  intro m
  induction m with
  | zero =>
    intro i hi
    have hol : ((L.take i).map bs).length = i := by rw [List.length_map, List.length_take]; omega
    refine Ev.step (f := fun _ => some ((L.take i).map bs ++ [bs s])) (fun k => ?_) (Ev.eq (Ev.now _) ?_)
    · simp only [wicketref03_put.l0]
      rw [if_neg (by omega), if_neg (by simp), if_pos (by omega)]
    · rw [List.drop_eq_nil_of_le (by omega), List.map_append]; rfl
  | succ m ih =>
    intro i hi
    have hlt : i < L.length := by omega
    have hol : ((L.take i).map bs).length = i := by rw [List.length_map, List.length_take]; omega
    have hrd := rd_bs L i hlt
    have htk := List.take_succ_eq_append_getElem hlt
    have hdr := drop_cons L i hlt
    have hri : Rising (L.drop i) := List.Pairwise.sublist (List.drop_sublist i L) hr
    rw [hdr] at hri
    have hr1 := List.pairwise_cons.1 hri
    have key := ih (i + 1) (by omega)
    have hdone := put_done L s hL m (i + 1) (L.take i ++ [s, L[i]]) (by omega)
    have hwhole : L.take i ++ L.drop i = L := List.take_append_drop i L
    rw [hdr] at hwhole ⊢
    rw [htk] at key
    generalize L[i] = x at *
    unfold putL
    by_cases he : x = s
    · rw [if_pos he, hwhole]
      refine Ev.step (f := fun _ => some (L.map bs)) (fun k => ?_) (Ev.now _)
      simp only [wicketref03_put.l0]
      rw [if_pos (by omega), if_pos (by omega), hrd, if_pos (by rw [he])]
    · rw [if_neg he]
      have hne : ¬ (bs x).toList = (bs s).toList := by rw [bs_toList, bs_toList]; exact he
      by_cases hlt2 : s < x
      · rw [if_pos hlt2]
        have hb : Op.bytesLess (bs s).toList (bs x).toList = true := by rw [bs_toList, bs_toList, Go.Proofs.bytesLess_eq]; exact decide_eq_true hlt2
        have hd := hdone (fun hm => List.lt_irrefl s (List.lt_trans hlt2 (hr1.1 s hm))) (by rw [List.length_append, List.length_take]; simp; omega)
        have e : L.take i ++ [s, x] ++ L.drop (i + 1) = L.take i ++ s :: x :: L.drop (i + 1) := by simp
        rw [e] at hd
        refine Ev.step (fun k => ?_) hd
        simp only [wicketref03_put.l0]
        rw [if_pos (by omega), if_pos (by omega), hrd, if_neg hne, if_neg (by simp), if_pos hb, if_pos (by omega), Option.bind_some, if_pos (by rw [List.length_append, List.length_singleton]; omega), w64 (by omega) (by omega)]
        simp only [List.map_append, List.append_assoc]
        rfl
      · rw [if_neg hlt2]
        have hb : ¬ Op.bytesLess (bs s).toList (bs x).toList = true := by rw [bs_toList, bs_toList, Go.Proofs.bytesLess_eq]; simpa using hlt2
        rw [List.append_assoc, List.singleton_append] at key
        refine Ev.step (fun k => ?_) key
        simp only [wicketref03_put.l0]
        rw [if_pos (by omega), if_pos (by omega), hrd, if_neg hne, if_neg (by simp), if_neg hb, if_pos (by omega), w64 (by omega) (by omega), List.map_append]
        rfl
theorem put_ev (L : List (List UInt8)) (s : List UInt8) (hL : L.length ≤ 20000) (hr : Rising L) : Ev (fun k => wicketref03_put.f k (L.map bs) (bs s)) ((putL L s).map bs) := by
  unfold wicketref03_put.f
  exact put_find L s hL hr L.length 0 (by omega)
theorem splitL_has (c : UInt8) : ∀ (l : List UInt8) (x : UInt8), x ∈ l → x ≠ c → ∃ p ∈ splitL c l, x ∈ p
  | y :: r, x, h, hx => by
    by_cases hy : y = c
    · subst hy
      rw [splitL_same]
      rcases List.mem_cons.1 h with rfl | h
      · exact absurd rfl hx
      · obtain ⟨p, hp, hm⟩ := splitL_has y r x h hx
        exact ⟨p, List.mem_cons_of_mem _ hp, hm⟩
    · obtain ⟨q, ps, hq⟩ : ∃ p ps, splitL c r = p :: ps := by
        cases hr : splitL c r with
        | nil => exact absurd hr (splitL_ne c r)
        | cons p ps => exact ⟨p, ps, rfl⟩
      rw [splitL_other c y r q ps hy hq]
      rcases List.mem_cons.1 h with rfl | h
      · exact ⟨_, List.mem_cons_self, List.mem_cons_self⟩
      · obtain ⟨p, hp, hm⟩ := splitL_has c r x h hx
        rw [hq] at hp
        rcases List.mem_cons.1 hp with rfl | hp
        · exact ⟨_, List.mem_cons_self, List.mem_cons_of_mem _ hm⟩
        · exact ⟨p, List.mem_cons_of_mem _ hp, hm⟩
def restS (l : List UInt8) (j : Nat) : List (List UInt8) := if j ≤ l.length then splitL 32 (l.drop j) else []
def finS (ps L : List (List UInt8)) : List (List UInt8) × Int := if ps.any badP = true then ([], 33) else if 32 < (ps.foldl putL L).length then ([], 32) else (ps.foldl putL L, 0)
theorem extractS (s : ByteArray) (a b : Nat) (h : b ≤ s.size) : (s.extract a b).data.toList = (s.data.toList.drop a).take (b - a) := by
  rw [ByteArray.data_extract, Array.toList_extract]
theorem btS (s : ByteArray) (i : Nat) (h : i < s.size) : bt s (i : Int) = (s[i].toNat : Int) := by
  unfold bt
  rw [dif_pos (by simpa using h)]
  rfl
theorem u8S (c : UInt8) (n : Nat) (h : c.toNat = n) : c = UInt8.ofNat n := by rw [← h, UInt8.ofNat_toNat]
theorem refscopes_loop (s : ByteArray) (hs : s.size ≤ 256) : ∀ (m a i : Nat) (L : List (List UInt8)), i + m = s.size + 1 → a ≤ i → (m = 0 → a = i) → L.length ≤ a → Rising L → (∀ x ∈ (s.data.toList.drop a).take (i - a), letterB x = true) →
    Ev (fun k => wicketref03_Scopes.l0 k s (L.map bs) (a : Int) (i : Int)) (resS (finS (restS s.data.toList a) L)) := by
  intro m
  induction m with
  | zero =>
    intro a i L hi hai h0 hL hr _
    have := h0 rfl
    subst this
    have hal : (L.map bs).length = L.length := List.length_map ..
    have hfin : restS s.data.toList a = [] := by unfold restS; rw [if_neg (by rw [data_len]; omega)]
    rw [hfin]
    unfold finS
    rw [List.any_nil, if_neg (by simp), List.foldl_nil]
    by_cases h32 : 32 < L.length
    · rw [if_pos h32]
      refine Ev.step (f := fun _ => some ([], 32)) (fun k => ?_) (Ev.eq (Ev.now _) rfl)
      simp only [wicketref03_Scopes.l0]
      rw [if_neg (by omega), if_pos (by omega)]
    · rw [if_neg h32]
      refine Ev.step (f := fun _ => some (L.map bs, 0)) (fun k => ?_) (Ev.eq (Ev.now _) rfl)
      simp only [wicketref03_Scopes.l0]
      rw [if_neg (by omega), if_neg (by omega)]
  | succ m ih =>
    intro a i L hi hai _ hL hr hlet
    by_cases hgo : ∃ h : i < s.size, s[i] ≠ 32
    · obtain ⟨hlt, hne⟩ := hgo
      have hbt := btS s i hlt
      have hne' : ((s[i].toNat : Int) != 32) = true := by
        rw [bne_iff_ne]; exact fun e => hne (u8S _ 32 (by omega))
      have hlen : i - a < (s.data.toList.drop a).length := by rw [List.length_drop, data_len]; omega
      have hget : (s.data.toList.drop a)[i - a] = s[i] := by
        rw [List.getElem_drop]
        have : ∀ (j : Nat) (h : j < s.data.toList.length), j = i → s.data.toList[j] = s[i] := by rintro j h rfl; rfl
        exact this _ _ (by omega)
      have hle := letter_eq s[i]
      refine Ev.step (f := fun k => wicketref03_Scopes.j1 k s (L.map bs) (a : Int) (i : Int) true) (fun k => ?_) ?_
      · simp only [wicketref03_Scopes.l0]
        rw [if_pos (by omega), if_pos (by omega), if_pos (by omega), hbt, hne']
      · cases hc : letterB s[i] with
        | false =>
          rw [hc] at hle
          have hbad : (restS s.data.toList a).any badP = true := by
            unfold restS
            rw [if_pos (by rw [data_len]; omega)]
            obtain ⟨p, hp, hm⟩ := splitL_has 32 (s.data.toList.drop a) s[i] (by rw [← hget]; exact List.getElem_mem hlen) hne
            rw [List.any_eq_true]
            refine ⟨p, hp, ?_⟩
            unfold badP
            rw [Bool.or_eq_true, List.any_eq_true]
            exact .inr ⟨_, hm, by rw [hc]; rfl⟩
          unfold finS
          rw [if_pos hbad]
          refine Ev.step (f := fun _ => some ([], 33)) (fun k => ?_) (Ev.eq (Ev.now _) rfl)
          simp only [wicketref03_Scopes.j1, if_true]
          rw [if_pos (by omega), if_pos (by omega), hbt, hle, Option.bind_some, if_neg (by simp)]
        | true =>
          rw [hc] at hle
          refine Ev.step (fun k => ?_) (ih a (i + 1) L (by omega) (by omega) (by omega) hL hr ?_)
          · simp only [wicketref03_Scopes.j1, if_true]
            rw [if_pos (by omega), if_pos (by omega), hbt, hle, Option.bind_some, if_pos rfl, w64 (by omega) (by omega)]
            rfl
          · rw [show i + 1 - a = (i - a) + 1 by omega, List.take_succ_eq_append_getElem hlen, hget]
            intro x hx
            rcases List.mem_append.1 hx with hx | hx
            · exact hlet x hx
            · rw [List.mem_singleton] at hx; rw [hx]; exact hc
    · have h32 : 32 ∉ (s.data.toList.drop a).take (i - a) := fun hm => by have := hlet 32 hm; rw [letter_space] at this; cases this
      have hrest : restS s.data.toList a = (s.data.toList.drop a).take (i - a) :: restS s.data.toList (i + 1) := by
        unfold restS
        rw [data_len, if_pos (by omega)]
        by_cases hlt : i < s.size
        · have h32i : s[i] = 32 := Classical.byContradiction fun e => hgo ⟨hlt, e⟩
          rw [if_pos (by omega)]
          have hcut : s.data.toList.drop a = (s.data.toList.drop a).take (i - a) ++ 32 :: s.data.toList.drop (i + 1) := by
            conv => lhs; rw [← List.take_append_drop (i - a) (s.data.toList.drop a)]
            congr 1
            rw [List.drop_drop, show a + (i - a) = i by omega, drop_at s i hlt, h32i]
          conv => lhs; rw [hcut]
          rw [splitL_hit 32 _ _ h32]
        · rw [if_neg (by omega)]
          have hz : (s.data.toList.drop a).take (i - a) = s.data.toList.drop a := List.take_of_length_le (by rw [List.length_drop, data_len]; omega)
          rw [hz] at h32 ⊢
          exact splitL_whole 32 _ h32
      have hplen : ((s.data.toList.drop a).take (i - a)).length = i - a := by rw [List.length_take, List.length_drop, data_len]; omega
      rw [hrest]
      have hl0 : ∀ r, Ev (fun k => wicketref03_Scopes.j1 k s (L.map bs) (a : Int) (i : Int) false) r → Ev (fun k => wicketref03_Scopes.l0 k s (L.map bs) (a : Int) (i : Int)) r := by
        refine fun r h => Ev.step (fun k => ?_) h
        simp only [wicketref03_Scopes.l0]
        rw [if_pos (by omega)]
        by_cases hlt : i < s.size
        · have h32i : s[i] = 32 := Classical.byContradiction fun e => hgo ⟨hlt, e⟩
          have hbt := btS s i hlt
          rw [if_pos (by omega), if_pos (by omega), hbt, h32i]
          rfl
        · rw [if_neg (by omega)]
      refine hl0 _ ?_
      have hx : bs ((s.data.toList.drop a).take (i - a)) = s.extract a i := by rw [← extractS s a i (by omega), bs_of]
      have hw : wrap64 ((i : Int) + 1) = ((i + 1 : Nat) : Int) := by rw [w64 (by omega) (by omega)]; rfl
      generalize hp : (s.data.toList.drop a).take (i - a) = p at *
      unfold finS
      rw [List.any_cons]
      by_cases h1 : p = []
      · have hbp : badP p = true := by rw [h1]; rfl
        rw [hbp, Bool.true_or, if_pos rfl]
        rw [h1] at hplen
        simp only [List.length_nil] at hplen
        refine Ev.step (f := fun _ => some ([], 33)) (fun k => ?_) (Ev.eq (Ev.now _) rfl)
        simp only [wicketref03_Scopes.j1]
        rw [if_neg (by simp), if_pos (by omega)]
      · have hbp : badP p = false := by
          unfold badP
          rw [Bool.or_eq_false_iff]
          refine ⟨by cases p <;> simp_all, ?_⟩
          rw [List.any_eq_false]
          intro x hxm
          rw [hlet x hxm]
          simp
        rw [hbp, Bool.false_or, List.foldl_cons]
        have hpos : 0 < p.length := List.length_pos_iff.2 h1
        have hpl := putL_len p L
        refine Ev.step (f := fun k => (wicketref03_put.f k (L.map bs) (bs p)).bind fun t243 => (wicketref03_Scopes.l0 k s t243 ((i + 1 : Nat) : Int) ((i + 1 : Nat) : Int))) (fun k => ?_) ?_
        · simp only [wicketref03_Scopes.j1]
          rw [if_neg (by simp), if_neg (by omega), if_pos (by omega), if_pos (by omega), if_pos (by omega), hw, Int.toNat_natCast, Int.toNat_natCast, hx]
        · refine Ev.bind (put_ev L p (by omega) hr) ?_
          exact ih (i + 1) (i + 1) (putL L p) (by omega) (by omega) (fun _ => rfl) (by omega) (putL_rising p L hr) (by simp)
theorem refscopes_ev (s : ByteArray) : Ev (fun k => wicketref03_Scopes.f k s) (resS (scopesL s.data.toList)) := by
  unfold wicketref03_Scopes.f scopesL
  rw [data_len]
  by_cases h : 256 < s.size
  · rw [if_pos h]
    exact Ev.pos (by omega) (Ev.now _)
  · rw [if_neg h]
    refine Ev.neg (by omega) ?_
    by_cases h1 : s.data.toList = []
    · rw [if_pos h1]
      exact Ev.pos (by rw [toList_data]; exact h1) (Ev.now _)
    · rw [if_neg h1]
      refine Ev.neg (by rw [toList_data]; exact h1) ?_
      exact refscopes_loop s (by omega) (s.size + 1) 0 0 [] (by omega) (by omega) (by omega) (by simp) List.Pairwise.nil (by simp)
theorem scopesL_len (l : List UInt8) : (scopesL l).1.length ≤ 32 := by
  unfold scopesL
  split
  · simp
  · split
    · simp
    · split
      · simp
      · split
        · simp
        · simp; omega
end Go.Proofs.YtmimipgmhgalaaaGreatDoor.Pure
end
section
namespace Go.Proofs.YtmimipgmhgalaaaGreatDoor.Pure
open Go.RowKit Go.Proofs.YtmimipgmhgalaaaGreatDoorW.PrintWords Go.Proofs.YtmimipgmhgalaaaGreatDoor.Plain Go.Proofs.YtmimipgmhgalaaaGreatDoor.Spec Go.Proofs.YtmimipgmhgalaaaGreatDoor.PAll
set_option linter.unusedSimpArgs false
set_option linter.unusedVariables false
def urlR (c : ClT) : Bool := if c.pg = true then withinL c.u.data.toList 9 256 33 && Lib.hasPrefix c.u.data.toList httpsL else decide (c.u.data.toList = [])
def sixR (c : ClT) : Bool := if c.pg = true then decide (2 ≤ c.gr) && decide (c.s.data.toList ≠ []) else true
theorem url_ev (c : ClT) (hs : Small c) : Ev (fun k => wicketref11_url.f k c.i c.s c.gr c.pg c.u c.sc) (urlR c) := by
  unfold wicketref11_url.f urlR
  cases hp : c.pg with
  | false =>
    refine Ev.neg (by simp) (Ev.eq (Ev.now _) ?_)
    rw [if_neg (by simp), toList_data]
    cases c.u.data.toList <;> simp
  | true =>
    rw [if_pos rfl]
    refine Ev.pos rfl (Ev.bind (bytes_ev c.u hs.u 9 256 33) ?_)
    cases e : withinL c.u.data.toList 9 256 33 with
    | false => exact Ev.neg (by simp) (Ev.eq (Ev.now _) (by simp))
    | true =>
      have hl : 9 ≤ c.u.size := by
        have := e
        unfold withinL at this
        simp only [Bool.and_eq_true, decide_eq_true_eq, data_len] at this
        exact this.2.1
      refine Ev.pos rfl (Ev.pos (by omega) (Ev.pos (by omega) (Ev.eq (Ev.now _) ?_)))
      rw [toList_data, extractS _ _ _ (by omega), Bool.true_and, List.drop_zero]
      unfold Lib.hasPrefix httpsL
      rw [Bool.eq_iff_iff, beq_iff_eq, List.isPrefixOf_iff_prefix, List.prefix_iff_eq_take]
      exact ⟨fun e => e.symm, fun e => e.symm⟩
theorem bits_two (g : Int) (h1 : 1 ≤ g) (h3 : g ≤ 3) : decide (Go.bits .and .i64 g 2 ≠ 0) = decide (2 ≤ g) := by
  have : g = 1 ∨ g = 2 ∨ g = 3 := by omega
  rcases this with rfl | rfl | rfl <;> rfl
theorem check_same (c : ClT) : (withinL c.i.data.toList 1 64 33 && (withinL c.s.data.toList 0 256 32 && (decide (1 ≤ c.gr ∧ c.gr ≤ 3) && (sixR c && (urlR c && scopesOk c.sc))))) = checkL c := by
  unfold checkL sixR urlR urlL
  by_cases h : 1 ≤ c.gr ∧ c.gr ≤ 3
  · rw [bits_two c.gr h.1 h.2]
    cases c.pg <;> simp [Bool.and_assoc]
  · rw [decide_eq_false h]; simp
theorem refcheck_ev (c : ClT) (hs : Small c) : Ev (fun k => wicketref11_Check.f k c.i c.s c.gr c.pg c.u c.sc) (numC (checkL c)) := by
  have hj1 : ∀ b5 b6 : Bool, Ev (fun k => wicketref11_Check.j1 k b5 b6 c.i c.s c.gr c.pg c.u c.sc) (numC (withinL c.i.data.toList 1 64 33 && (withinL c.s.data.toList 0 256 32 && (decide (1 ≤ c.gr ∧ c.gr ≤ 3) && (b6 && (urlR c && b5)))))) := by
    intro b5 b6
    refine Ev.step (f := fun k => (wicketref11_bytes.f k c.i 33 126 1 64).bind fun t330 => if t330 = true then ((wicketref11_bytes.f k c.s 32 126 0 256).bind fun t331 => if t331 = true then (if c.gr ≥ 1 then (if c.gr ≤ 3 then (if b6 = true then ((wicketref11_url.f k c.i c.s c.gr c.pg c.u c.sc).bind fun t332 => if t332 = true then (if b5 = true then some 0 else some 111) else some 111) else some 111) else some 111) else some 111) else some 111) else some 111) (fun k => by simp only [wicketref11_Check.j1]) ?_
    refine Ev.bind (bytes_ev c.i hs.i 1 64 33) ?_
    cases withinL c.i.data.toList 1 64 33 with
    | false => exact Ev.neg (by simp) (Ev.eq (Ev.now _) (by simp [numC]))
    | true =>
      refine Ev.pos rfl (Ev.bind (bytes_ev c.s hs.s 0 256 32) ?_)
      cases withinL c.s.data.toList 0 256 32 with
      | false => exact Ev.neg (by simp) (Ev.eq (Ev.now _) (by simp [numC]))
      | true =>
        refine Ev.pos rfl ?_
        by_cases g1 : c.gr ≥ 1
        · by_cases g2 : c.gr ≤ 3
          · rw [decide_eq_true (show 1 ≤ c.gr ∧ c.gr ≤ 3 from ⟨g1, g2⟩)]
            refine Ev.pos g1 (Ev.pos g2 ?_)
            cases b6 with
            | false => exact Ev.neg (by simp) (Ev.eq (Ev.now _) (by simp [numC]))
            | true =>
              refine Ev.pos rfl (Ev.bind (url_ev c hs) ?_)
              cases urlR c with
              | false => exact Ev.neg (by simp) (Ev.eq (Ev.now _) (by simp [numC]))
              | true =>
                cases b5 with
                | false => exact Ev.pos rfl (Ev.neg (by simp) (Ev.eq (Ev.now _) (by simp [numC])))
                | true => exact Ev.pos rfl (Ev.pos rfl (Ev.eq (Ev.now _) (by simp [numC])))
          · exact Ev.pos g1 (Ev.neg g2 (Ev.eq (Ev.now _) (by rw [decide_eq_false (by omega)]; simp [numC])))
        · exact Ev.neg g1 (Ev.eq (Ev.now _) (by rw [decide_eq_false (by omega)]; simp [numC]))
  have hj0 : ∀ b5 : Bool, Ev (fun k => wicketref11_Check.j0 k b5 c.i c.s c.gr c.pg c.u c.sc) (numC (withinL c.i.data.toList 1 64 33 && (withinL c.s.data.toList 0 256 32 && (decide (1 ≤ c.gr ∧ c.gr ≤ 3) && (sixR c && (urlR c && b5)))))) := by
    intro b5
    refine Ev.step (f := fun k => if c.pg = true then (if c.gr ≥ 2 then wicketref11_Check.j1 k b5 (c.s.toList != []) c.i c.s c.gr c.pg c.u c.sc else wicketref11_Check.j1 k b5 false c.i c.s c.gr c.pg c.u c.sc) else wicketref11_Check.j1 k b5 true c.i c.s c.gr c.pg c.u c.sc) (fun k => by simp only [wicketref11_Check.j0]) ?_
    cases hp : c.pg with
    | false =>
      refine Ev.neg (by simp) ?_
      have := hj1 b5 true
      rw [hp] at this
      exact Ev.eq this (by unfold sixR; rw [hp]; simp)
    | true =>
      refine Ev.pos rfl ?_
      by_cases g : c.gr ≥ 2
      · have := hj1 b5 (c.s.toList != [])
        rw [hp] at this
        refine Ev.pos g (Ev.eq this ?_)
        unfold sixR
        rw [if_pos hp, toList_data, decide_eq_true (show 2 ≤ c.gr from g)]
        rw [show (c.s.data.toList != ([] : List UInt8)) = (true && decide (c.s.data.toList ≠ [])) from by cases c.s.data.toList <;> simp [bne]]
      · have := hj1 b5 false
        rw [hp] at this
        refine Ev.neg g (Ev.eq this ?_)
        unfold sixR
        rw [if_pos hp, decide_eq_false (show ¬2 ≤ c.gr from g)]
        simp
  unfold wicketref11_Check.f
  refine Ev.bind (joined_ev c.sc hs.n hs.j) (Ev.bind (refscopes_ev _) ?_)
  rw [bs_data, ← check_same c]
  unfold scopesOk
  by_cases h0 : (scopesL (joinedL c.sc)).2 = 0
  · refine Ev.pos h0 (Ev.bind (texts_ev _ _ ?_) ?_)
    · show ((scopesL (joinedL c.sc)).1.map bs).length ≤ _
      rw [List.length_map]
      have := scopesL_len (joinedL c.sc)
      omega
    · rw [decide_eq_true h0, Bool.true_and]
      exact hj0 _
  · refine Ev.neg h0 ?_
    rw [decide_eq_false h0, Bool.false_and]
    exact hj0 _
end Go.Proofs.YtmimipgmhgalaaaGreatDoor.Pure
end
section
namespace Go.Proofs.YtmimipgmhgalaaaGreatDoor.PAll
open Go.RowKit Go.Proofs.YtmimipgmhgalaaaGreatDoorW.PrintWords Go.Proofs.YtmimipgmhgalaaaGreatDoorW.PrintLast Go.Proofs.YtmimipgmhgalaaaGreatDoorW.PrintMore
attribute [local go_sem] max2_int min2_int max_two min_two max_three min_three max_four min_four
set_option linter.unusedVariables false
set_option linter.unusedSimpArgs false
def wicketref03_plain.f (a0 : Int) : Option (Bool) := if a0 ≥ 65 then (if a0 ≤ 90 then (some true) else (if a0 ≥ 97 then (if a0 ≤ 122 then (some true) else (if a0 ≥ 48 then (if a0 ≤ 57 then (some true) else (if a0 = 45 then (some true) else (if a0 = 46 then (some true) else (if a0 = 95 then (some true) else (some (a0 == 42)))))) else (if a0 = 45 then (some true) else (if a0 = 46 then (some true) else (if a0 = 95 then (some true) else (some (a0 == 42))))))) else (if a0 ≥ 48 then (if a0 ≤ 57 then (some true) else (if a0 = 45 then (some true) else (if a0 = 46 then (some true) else (if a0 = 95 then (some true) else (some (a0 == 42)))))) else (if a0 = 45 then (some true) else (if a0 = 46 then (some true) else (if a0 = 95 then (some true) else (some (a0 == 42)))))))) else (if a0 ≥ 97 then (if a0 ≤ 122 then (some true) else (if a0 ≥ 48 then (if a0 ≤ 57 then (some true) else (if a0 = 45 then (some true) else (if a0 = 46 then (some true) else (if a0 = 95 then (some true) else (some (a0 == 42)))))) else (if a0 = 45 then (some true) else (if a0 = 46 then (some true) else (if a0 = 95 then (some true) else (some (a0 == 42))))))) else (if a0 ≥ 48 then (if a0 ≤ 57 then (some true) else (if a0 = 45 then (some true) else (if a0 = 46 then (some true) else (if a0 = 95 then (some true) else (some (a0 == 42)))))) else (if a0 = 45 then (some true) else (if a0 = 46 then (some true) else (if a0 = 95 then (some true) else (some (a0 == 42)))))))
set_option maxHeartbeats 8000000 in
set_option maxRecDepth 100000 in
theorem wicketref03_plain.calls (a0 : Int) (r : Bool) (w : World) (h : wicketref03_plain.f a0 = some r) :
    Calls Tryz.prog 73 #[.int .u8 a0] w fun e w' => e = .returned (.bool r) ∧ Drawn0 w w' := by
  have H : (if a0 ≥ 65 then (if a0 ≤ 90 then (some true) else (if a0 ≥ 97 then (if a0 ≤ 122 then (some true) else (if a0 ≥ 48 then (if a0 ≤ 57 then (some true) else (if a0 = 45 then (some true) else (if a0 = 46 then (some true) else (if a0 = 95 then (some true) else (some (a0 == 42)))))) else (if a0 = 45 then (some true) else (if a0 = 46 then (some true) else (if a0 = 95 then (some true) else (some (a0 == 42))))))) else (if a0 ≥ 48 then (if a0 ≤ 57 then (some true) else (if a0 = 45 then (some true) else (if a0 = 46 then (some true) else (if a0 = 95 then (some true) else (some (a0 == 42)))))) else (if a0 = 45 then (some true) else (if a0 = 46 then (some true) else (if a0 = 95 then (some true) else (some (a0 == 42)))))))) else (if a0 ≥ 97 then (if a0 ≤ 122 then (some true) else (if a0 ≥ 48 then (if a0 ≤ 57 then (some true) else (if a0 = 45 then (some true) else (if a0 = 46 then (some true) else (if a0 = 95 then (some true) else (some (a0 == 42)))))) else (if a0 = 45 then (some true) else (if a0 = 46 then (some true) else (if a0 = 95 then (some true) else (some (a0 == 42))))))) else (if a0 ≥ 48 then (if a0 ≤ 57 then (some true) else (if a0 = 45 then (some true) else (if a0 = 46 then (some true) else (if a0 = 95 then (some true) else (some (a0 == 42)))))) else (if a0 = 45 then (some true) else (if a0 = 46 then (some true) else (if a0 = 95 then (some true) else (some (a0 == 42)))))))) = some r := h
  clear h
  by_cases c2 : a0 ≥ 65
  · rw [if_pos c2] at H
    have c2b0 : decide (65 ≤ a0) = true := decide_eq_true c2
    clear c2
    by_cases c3 : a0 ≤ 90
    · rw [if_pos c3] at H
      have c3b0 : decide (a0 ≤ 90) = true := decide_eq_true c3
      clear c3
      obtain rfl := Option.some.inj H
      go_enter Tryz.func73, Tryz.ntmps73
      go_wp2
      go_ret
      exact ⟨by first | rfl | (simp; done) | (simp [*]; done) | (simp; (generalize ByteArray.toList _ = z_); cases z_ <;> rfl), by repeat (first | exact Drawn0.refl _ | apply Drawn0.step)⟩
    · rw [if_neg c3] at H
      have c3b0 : decide (a0 ≤ 90) = false := decide_eq_false c3
      clear c3
      by_cases c4 : a0 ≥ 97
      · rw [if_pos c4] at H
        have c4b0 : decide (97 ≤ a0) = true := decide_eq_true c4
        clear c4
        by_cases c5 : a0 ≤ 122
        · rw [if_pos c5] at H
          have c5b0 : decide (a0 ≤ 122) = true := decide_eq_true c5
          clear c5
          obtain rfl := Option.some.inj H
          go_enter Tryz.func73, Tryz.ntmps73
          go_wp2
          go_ret
          exact ⟨by first | rfl | (simp; done) | (simp [*]; done) | (simp; (generalize ByteArray.toList _ = z_); cases z_ <;> rfl), by repeat (first | exact Drawn0.refl _ | apply Drawn0.step)⟩
        · rw [if_neg c5] at H
          have c5b0 : decide (a0 ≤ 122) = false := decide_eq_false c5
          clear c5
          by_cases c6 : a0 ≥ 48
          · rw [if_pos c6] at H
            have c6b0 : decide (48 ≤ a0) = true := decide_eq_true c6
            clear c6
            by_cases c7 : a0 ≤ 57
            · rw [if_pos c7] at H
              have c7b0 : decide (a0 ≤ 57) = true := decide_eq_true c7
              clear c7
              obtain rfl := Option.some.inj H
              go_enter Tryz.func73, Tryz.ntmps73
              go_wp2
              go_ret
              exact ⟨by first | rfl | (simp; done) | (simp [*]; done) | (simp; (generalize ByteArray.toList _ = z_); cases z_ <;> rfl), by repeat (first | exact Drawn0.refl _ | apply Drawn0.step)⟩
            · rw [if_neg c7] at H
              have c7b0 : decide (a0 ≤ 57) = false := decide_eq_false c7
              clear c7
              by_cases c8 : a0 = 45
              · rw [if_pos c8] at H
                have c8b0 : (a0 == 45) = true := beq_iff_eq.mpr c8
                have c8b1 : (a0 != 45) = false := bne_eq_false_iff_eq.mpr c8
                clear c8
                obtain rfl := Option.some.inj H
                go_enter Tryz.func73, Tryz.ntmps73
                go_wp2
                go_ret
                exact ⟨by first | rfl | (simp; done) | (simp [*]; done) | (simp; (generalize ByteArray.toList _ = z_); cases z_ <;> rfl), by repeat (first | exact Drawn0.refl _ | apply Drawn0.step)⟩
              · rw [if_neg c8] at H
                have c8b0 : (a0 == 45) = false := beq_eq_false_iff_ne.mpr c8
                have c8b1 : (a0 != 45) = true := bne_iff_ne.mpr c8
                by_cases c9 : a0 = 46
                · rw [if_pos c9] at H
                  have c9b0 : (a0 == 46) = true := beq_iff_eq.mpr c9
                  have c9b1 : (a0 != 46) = false := bne_eq_false_iff_eq.mpr c9
                  clear c9
                  obtain rfl := Option.some.inj H
                  go_enter Tryz.func73, Tryz.ntmps73
                  go_wp2
                  go_ret
                  exact ⟨by first | rfl | (simp; done) | (simp [*]; done) | (simp; (generalize ByteArray.toList _ = z_); cases z_ <;> rfl), by repeat (first | exact Drawn0.refl _ | apply Drawn0.step)⟩
                · rw [if_neg c9] at H
                  have c9b0 : (a0 == 46) = false := beq_eq_false_iff_ne.mpr c9
                  have c9b1 : (a0 != 46) = true := bne_iff_ne.mpr c9
                  by_cases c10 : a0 = 95
                  · rw [if_pos c10] at H
                    have c10b0 : (a0 == 95) = true := beq_iff_eq.mpr c10
                    have c10b1 : (a0 != 95) = false := bne_eq_false_iff_eq.mpr c10
                    clear c10
                    obtain rfl := Option.some.inj H
                    go_enter Tryz.func73, Tryz.ntmps73
                    go_wp2
                    go_ret
                    exact ⟨by first | rfl | (simp; done) | (simp [*]; done) | (simp; (generalize ByteArray.toList _ = z_); cases z_ <;> rfl), by repeat (first | exact Drawn0.refl _ | apply Drawn0.step)⟩
                  · rw [if_neg c10] at H
                    have c10b0 : (a0 == 95) = false := beq_eq_false_iff_ne.mpr c10
                    have c10b1 : (a0 != 95) = true := bne_iff_ne.mpr c10
                    obtain rfl := Option.some.inj H
                    go_enter Tryz.func73, Tryz.ntmps73
                    go_wp2
                    go_ret
                    exact ⟨by first | rfl | (simp; done) | (simp [*]; done) | (simp; (generalize ByteArray.toList _ = z_); cases z_ <;> rfl), by repeat (first | exact Drawn0.refl _ | apply Drawn0.step)⟩
          · rw [if_neg c6] at H
            have c6b0 : decide (48 ≤ a0) = false := decide_eq_false c6
            clear c6
            by_cases c11 : a0 = 45
            · rw [if_pos c11] at H
              have c11b0 : (a0 == 45) = true := beq_iff_eq.mpr c11
              have c11b1 : (a0 != 45) = false := bne_eq_false_iff_eq.mpr c11
              clear c11
              obtain rfl := Option.some.inj H
              go_enter Tryz.func73, Tryz.ntmps73
              go_wp2
              go_ret
              exact ⟨by first | rfl | (simp; done) | (simp [*]; done) | (simp; (generalize ByteArray.toList _ = z_); cases z_ <;> rfl), by repeat (first | exact Drawn0.refl _ | apply Drawn0.step)⟩
            · rw [if_neg c11] at H
              have c11b0 : (a0 == 45) = false := beq_eq_false_iff_ne.mpr c11
              have c11b1 : (a0 != 45) = true := bne_iff_ne.mpr c11
              by_cases c12 : a0 = 46
              · rw [if_pos c12] at H
                have c12b0 : (a0 == 46) = true := beq_iff_eq.mpr c12
                have c12b1 : (a0 != 46) = false := bne_eq_false_iff_eq.mpr c12
                clear c12
                obtain rfl := Option.some.inj H
                go_enter Tryz.func73, Tryz.ntmps73
                go_wp2
                go_ret
                exact ⟨by first | rfl | (simp; done) | (simp [*]; done) | (simp; (generalize ByteArray.toList _ = z_); cases z_ <;> rfl), by repeat (first | exact Drawn0.refl _ | apply Drawn0.step)⟩
              · rw [if_neg c12] at H
                have c12b0 : (a0 == 46) = false := beq_eq_false_iff_ne.mpr c12
                have c12b1 : (a0 != 46) = true := bne_iff_ne.mpr c12
                by_cases c13 : a0 = 95
                · rw [if_pos c13] at H
                  have c13b0 : (a0 == 95) = true := beq_iff_eq.mpr c13
                  have c13b1 : (a0 != 95) = false := bne_eq_false_iff_eq.mpr c13
                  clear c13
                  obtain rfl := Option.some.inj H
                  go_enter Tryz.func73, Tryz.ntmps73
                  go_wp2
                  go_ret
                  exact ⟨by first | rfl | (simp; done) | (simp [*]; done) | (simp; (generalize ByteArray.toList _ = z_); cases z_ <;> rfl), by repeat (first | exact Drawn0.refl _ | apply Drawn0.step)⟩
                · rw [if_neg c13] at H
                  have c13b0 : (a0 == 95) = false := beq_eq_false_iff_ne.mpr c13
                  have c13b1 : (a0 != 95) = true := bne_iff_ne.mpr c13
                  obtain rfl := Option.some.inj H
                  go_enter Tryz.func73, Tryz.ntmps73
                  go_wp2
                  go_ret
                  exact ⟨by first | rfl | (simp; done) | (simp [*]; done) | (simp; (generalize ByteArray.toList _ = z_); cases z_ <;> rfl), by repeat (first | exact Drawn0.refl _ | apply Drawn0.step)⟩
      · rw [if_neg c4] at H
        have c4b0 : decide (97 ≤ a0) = false := decide_eq_false c4
        clear c4
        by_cases c14 : a0 ≥ 48
        · rw [if_pos c14] at H
          have c14b0 : decide (48 ≤ a0) = true := decide_eq_true c14
          clear c14
          by_cases c15 : a0 ≤ 57
          · rw [if_pos c15] at H
            have c15b0 : decide (a0 ≤ 57) = true := decide_eq_true c15
            clear c15
            obtain rfl := Option.some.inj H
            go_enter Tryz.func73, Tryz.ntmps73
            go_wp2
            go_ret
            exact ⟨by first | rfl | (simp; done) | (simp [*]; done) | (simp; (generalize ByteArray.toList _ = z_); cases z_ <;> rfl), by repeat (first | exact Drawn0.refl _ | apply Drawn0.step)⟩
          · rw [if_neg c15] at H
            have c15b0 : decide (a0 ≤ 57) = false := decide_eq_false c15
            clear c15
            by_cases c16 : a0 = 45
            · rw [if_pos c16] at H
              have c16b0 : (a0 == 45) = true := beq_iff_eq.mpr c16
              have c16b1 : (a0 != 45) = false := bne_eq_false_iff_eq.mpr c16
              clear c16
              obtain rfl := Option.some.inj H
              go_enter Tryz.func73, Tryz.ntmps73
              go_wp2
              go_ret
              exact ⟨by first | rfl | (simp; done) | (simp [*]; done) | (simp; (generalize ByteArray.toList _ = z_); cases z_ <;> rfl), by repeat (first | exact Drawn0.refl _ | apply Drawn0.step)⟩
            · rw [if_neg c16] at H
              have c16b0 : (a0 == 45) = false := beq_eq_false_iff_ne.mpr c16
              have c16b1 : (a0 != 45) = true := bne_iff_ne.mpr c16
              by_cases c17 : a0 = 46
              · rw [if_pos c17] at H
                have c17b0 : (a0 == 46) = true := beq_iff_eq.mpr c17
                have c17b1 : (a0 != 46) = false := bne_eq_false_iff_eq.mpr c17
                clear c17
                obtain rfl := Option.some.inj H
                go_enter Tryz.func73, Tryz.ntmps73
                go_wp2
                go_ret
                exact ⟨by first | rfl | (simp; done) | (simp [*]; done) | (simp; (generalize ByteArray.toList _ = z_); cases z_ <;> rfl), by repeat (first | exact Drawn0.refl _ | apply Drawn0.step)⟩
              · rw [if_neg c17] at H
                have c17b0 : (a0 == 46) = false := beq_eq_false_iff_ne.mpr c17
                have c17b1 : (a0 != 46) = true := bne_iff_ne.mpr c17
                by_cases c18 : a0 = 95
                · rw [if_pos c18] at H
                  have c18b0 : (a0 == 95) = true := beq_iff_eq.mpr c18
                  have c18b1 : (a0 != 95) = false := bne_eq_false_iff_eq.mpr c18
                  clear c18
                  obtain rfl := Option.some.inj H
                  go_enter Tryz.func73, Tryz.ntmps73
                  go_wp2
                  go_ret
                  exact ⟨by first | rfl | (simp; done) | (simp [*]; done) | (simp; (generalize ByteArray.toList _ = z_); cases z_ <;> rfl), by repeat (first | exact Drawn0.refl _ | apply Drawn0.step)⟩
                · rw [if_neg c18] at H
                  have c18b0 : (a0 == 95) = false := beq_eq_false_iff_ne.mpr c18
                  have c18b1 : (a0 != 95) = true := bne_iff_ne.mpr c18
                  obtain rfl := Option.some.inj H
                  go_enter Tryz.func73, Tryz.ntmps73
                  go_wp2
                  go_ret
                  exact ⟨by first | rfl | (simp; done) | (simp [*]; done) | (simp; (generalize ByteArray.toList _ = z_); cases z_ <;> rfl), by repeat (first | exact Drawn0.refl _ | apply Drawn0.step)⟩
        · rw [if_neg c14] at H
          have c14b0 : decide (48 ≤ a0) = false := decide_eq_false c14
          clear c14
          by_cases c19 : a0 = 45
          · rw [if_pos c19] at H
            have c19b0 : (a0 == 45) = true := beq_iff_eq.mpr c19
            have c19b1 : (a0 != 45) = false := bne_eq_false_iff_eq.mpr c19
            clear c19
            obtain rfl := Option.some.inj H
            go_enter Tryz.func73, Tryz.ntmps73
            go_wp2
            go_ret
            exact ⟨by first | rfl | (simp; done) | (simp [*]; done) | (simp; (generalize ByteArray.toList _ = z_); cases z_ <;> rfl), by repeat (first | exact Drawn0.refl _ | apply Drawn0.step)⟩
          · rw [if_neg c19] at H
            have c19b0 : (a0 == 45) = false := beq_eq_false_iff_ne.mpr c19
            have c19b1 : (a0 != 45) = true := bne_iff_ne.mpr c19
            by_cases c20 : a0 = 46
            · rw [if_pos c20] at H
              have c20b0 : (a0 == 46) = true := beq_iff_eq.mpr c20
              have c20b1 : (a0 != 46) = false := bne_eq_false_iff_eq.mpr c20
              clear c20
              obtain rfl := Option.some.inj H
              go_enter Tryz.func73, Tryz.ntmps73
              go_wp2
              go_ret
              exact ⟨by first | rfl | (simp; done) | (simp [*]; done) | (simp; (generalize ByteArray.toList _ = z_); cases z_ <;> rfl), by repeat (first | exact Drawn0.refl _ | apply Drawn0.step)⟩
            · rw [if_neg c20] at H
              have c20b0 : (a0 == 46) = false := beq_eq_false_iff_ne.mpr c20
              have c20b1 : (a0 != 46) = true := bne_iff_ne.mpr c20
              by_cases c21 : a0 = 95
              · rw [if_pos c21] at H
                have c21b0 : (a0 == 95) = true := beq_iff_eq.mpr c21
                have c21b1 : (a0 != 95) = false := bne_eq_false_iff_eq.mpr c21
                clear c21
                obtain rfl := Option.some.inj H
                go_enter Tryz.func73, Tryz.ntmps73
                go_wp2
                go_ret
                exact ⟨by first | rfl | (simp; done) | (simp [*]; done) | (simp; (generalize ByteArray.toList _ = z_); cases z_ <;> rfl), by repeat (first | exact Drawn0.refl _ | apply Drawn0.step)⟩
              · rw [if_neg c21] at H
                have c21b0 : (a0 == 95) = false := beq_eq_false_iff_ne.mpr c21
                have c21b1 : (a0 != 95) = true := bne_iff_ne.mpr c21
                obtain rfl := Option.some.inj H
                go_enter Tryz.func73, Tryz.ntmps73
                go_wp2
                go_ret
                exact ⟨by first | rfl | (simp; done) | (simp [*]; done) | (simp; (generalize ByteArray.toList _ = z_); cases z_ <;> rfl), by repeat (first | exact Drawn0.refl _ | apply Drawn0.step)⟩
  · rw [if_neg c2] at H
    have c2b0 : decide (65 ≤ a0) = false := decide_eq_false c2
    clear c2
    by_cases c22 : a0 ≥ 97
    · rw [if_pos c22] at H
      have c22b0 : decide (97 ≤ a0) = true := decide_eq_true c22
      clear c22
      by_cases c23 : a0 ≤ 122
      · rw [if_pos c23] at H
        have c23b0 : decide (a0 ≤ 122) = true := decide_eq_true c23
        clear c23
        obtain rfl := Option.some.inj H
        go_enter Tryz.func73, Tryz.ntmps73
        go_wp2
        go_ret
        exact ⟨by first | rfl | (simp; done) | (simp [*]; done) | (simp; (generalize ByteArray.toList _ = z_); cases z_ <;> rfl), by repeat (first | exact Drawn0.refl _ | apply Drawn0.step)⟩
      · rw [if_neg c23] at H
        have c23b0 : decide (a0 ≤ 122) = false := decide_eq_false c23
        clear c23
        by_cases c24 : a0 ≥ 48
        · rw [if_pos c24] at H
          have c24b0 : decide (48 ≤ a0) = true := decide_eq_true c24
          clear c24
          by_cases c25 : a0 ≤ 57
          · rw [if_pos c25] at H
            have c25b0 : decide (a0 ≤ 57) = true := decide_eq_true c25
            clear c25
            obtain rfl := Option.some.inj H
            go_enter Tryz.func73, Tryz.ntmps73
            go_wp2
            go_ret
            exact ⟨by first | rfl | (simp; done) | (simp [*]; done) | (simp; (generalize ByteArray.toList _ = z_); cases z_ <;> rfl), by repeat (first | exact Drawn0.refl _ | apply Drawn0.step)⟩
          · rw [if_neg c25] at H
            have c25b0 : decide (a0 ≤ 57) = false := decide_eq_false c25
            clear c25
            by_cases c26 : a0 = 45
            · rw [if_pos c26] at H
              have c26b0 : (a0 == 45) = true := beq_iff_eq.mpr c26
              have c26b1 : (a0 != 45) = false := bne_eq_false_iff_eq.mpr c26
              clear c26
              obtain rfl := Option.some.inj H
              go_enter Tryz.func73, Tryz.ntmps73
              go_wp2
              go_ret
              exact ⟨by first | rfl | (simp; done) | (simp [*]; done) | (simp; (generalize ByteArray.toList _ = z_); cases z_ <;> rfl), by repeat (first | exact Drawn0.refl _ | apply Drawn0.step)⟩
            · rw [if_neg c26] at H
              have c26b0 : (a0 == 45) = false := beq_eq_false_iff_ne.mpr c26
              have c26b1 : (a0 != 45) = true := bne_iff_ne.mpr c26
              by_cases c27 : a0 = 46
              · rw [if_pos c27] at H
                have c27b0 : (a0 == 46) = true := beq_iff_eq.mpr c27
                have c27b1 : (a0 != 46) = false := bne_eq_false_iff_eq.mpr c27
                clear c27
                obtain rfl := Option.some.inj H
                go_enter Tryz.func73, Tryz.ntmps73
                go_wp2
                go_ret
                exact ⟨by first | rfl | (simp; done) | (simp [*]; done) | (simp; (generalize ByteArray.toList _ = z_); cases z_ <;> rfl), by repeat (first | exact Drawn0.refl _ | apply Drawn0.step)⟩
              · rw [if_neg c27] at H
                have c27b0 : (a0 == 46) = false := beq_eq_false_iff_ne.mpr c27
                have c27b1 : (a0 != 46) = true := bne_iff_ne.mpr c27
                by_cases c28 : a0 = 95
                · rw [if_pos c28] at H
                  have c28b0 : (a0 == 95) = true := beq_iff_eq.mpr c28
                  have c28b1 : (a0 != 95) = false := bne_eq_false_iff_eq.mpr c28
                  clear c28
                  obtain rfl := Option.some.inj H
                  go_enter Tryz.func73, Tryz.ntmps73
                  go_wp2
                  go_ret
                  exact ⟨by first | rfl | (simp; done) | (simp [*]; done) | (simp; (generalize ByteArray.toList _ = z_); cases z_ <;> rfl), by repeat (first | exact Drawn0.refl _ | apply Drawn0.step)⟩
                · rw [if_neg c28] at H
                  have c28b0 : (a0 == 95) = false := beq_eq_false_iff_ne.mpr c28
                  have c28b1 : (a0 != 95) = true := bne_iff_ne.mpr c28
                  obtain rfl := Option.some.inj H
                  go_enter Tryz.func73, Tryz.ntmps73
                  go_wp2
                  go_ret
                  exact ⟨by first | rfl | (simp; done) | (simp [*]; done) | (simp; (generalize ByteArray.toList _ = z_); cases z_ <;> rfl), by repeat (first | exact Drawn0.refl _ | apply Drawn0.step)⟩
        · rw [if_neg c24] at H
          have c24b0 : decide (48 ≤ a0) = false := decide_eq_false c24
          clear c24
          by_cases c29 : a0 = 45
          · rw [if_pos c29] at H
            have c29b0 : (a0 == 45) = true := beq_iff_eq.mpr c29
            have c29b1 : (a0 != 45) = false := bne_eq_false_iff_eq.mpr c29
            clear c29
            obtain rfl := Option.some.inj H
            go_enter Tryz.func73, Tryz.ntmps73
            go_wp2
            go_ret
            exact ⟨by first | rfl | (simp; done) | (simp [*]; done) | (simp; (generalize ByteArray.toList _ = z_); cases z_ <;> rfl), by repeat (first | exact Drawn0.refl _ | apply Drawn0.step)⟩
          · rw [if_neg c29] at H
            have c29b0 : (a0 == 45) = false := beq_eq_false_iff_ne.mpr c29
            have c29b1 : (a0 != 45) = true := bne_iff_ne.mpr c29
            by_cases c30 : a0 = 46
            · rw [if_pos c30] at H
              have c30b0 : (a0 == 46) = true := beq_iff_eq.mpr c30
              have c30b1 : (a0 != 46) = false := bne_eq_false_iff_eq.mpr c30
              clear c30
              obtain rfl := Option.some.inj H
              go_enter Tryz.func73, Tryz.ntmps73
              go_wp2
              go_ret
              exact ⟨by first | rfl | (simp; done) | (simp [*]; done) | (simp; (generalize ByteArray.toList _ = z_); cases z_ <;> rfl), by repeat (first | exact Drawn0.refl _ | apply Drawn0.step)⟩
            · rw [if_neg c30] at H
              have c30b0 : (a0 == 46) = false := beq_eq_false_iff_ne.mpr c30
              have c30b1 : (a0 != 46) = true := bne_iff_ne.mpr c30
              by_cases c31 : a0 = 95
              · rw [if_pos c31] at H
                have c31b0 : (a0 == 95) = true := beq_iff_eq.mpr c31
                have c31b1 : (a0 != 95) = false := bne_eq_false_iff_eq.mpr c31
                clear c31
                obtain rfl := Option.some.inj H
                go_enter Tryz.func73, Tryz.ntmps73
                go_wp2
                go_ret
                exact ⟨by first | rfl | (simp; done) | (simp [*]; done) | (simp; (generalize ByteArray.toList _ = z_); cases z_ <;> rfl), by repeat (first | exact Drawn0.refl _ | apply Drawn0.step)⟩
              · rw [if_neg c31] at H
                have c31b0 : (a0 == 95) = false := beq_eq_false_iff_ne.mpr c31
                have c31b1 : (a0 != 95) = true := bne_iff_ne.mpr c31
                obtain rfl := Option.some.inj H
                go_enter Tryz.func73, Tryz.ntmps73
                go_wp2
                go_ret
                exact ⟨by first | rfl | (simp; done) | (simp [*]; done) | (simp; (generalize ByteArray.toList _ = z_); cases z_ <;> rfl), by repeat (first | exact Drawn0.refl _ | apply Drawn0.step)⟩
    · rw [if_neg c22] at H
      have c22b0 : decide (97 ≤ a0) = false := decide_eq_false c22
      clear c22
      by_cases c32 : a0 ≥ 48
      · rw [if_pos c32] at H
        have c32b0 : decide (48 ≤ a0) = true := decide_eq_true c32
        clear c32
        by_cases c33 : a0 ≤ 57
        · rw [if_pos c33] at H
          have c33b0 : decide (a0 ≤ 57) = true := decide_eq_true c33
          clear c33
          obtain rfl := Option.some.inj H
          go_enter Tryz.func73, Tryz.ntmps73
          go_wp2
          go_ret
          exact ⟨by first | rfl | (simp; done) | (simp [*]; done) | (simp; (generalize ByteArray.toList _ = z_); cases z_ <;> rfl), by repeat (first | exact Drawn0.refl _ | apply Drawn0.step)⟩
        · rw [if_neg c33] at H
          have c33b0 : decide (a0 ≤ 57) = false := decide_eq_false c33
          clear c33
          by_cases c34 : a0 = 45
          · rw [if_pos c34] at H
            have c34b0 : (a0 == 45) = true := beq_iff_eq.mpr c34
            have c34b1 : (a0 != 45) = false := bne_eq_false_iff_eq.mpr c34
            clear c34
            obtain rfl := Option.some.inj H
            go_enter Tryz.func73, Tryz.ntmps73
            go_wp2
            go_ret
            exact ⟨by first | rfl | (simp; done) | (simp [*]; done) | (simp; (generalize ByteArray.toList _ = z_); cases z_ <;> rfl), by repeat (first | exact Drawn0.refl _ | apply Drawn0.step)⟩
          · rw [if_neg c34] at H
            have c34b0 : (a0 == 45) = false := beq_eq_false_iff_ne.mpr c34
            have c34b1 : (a0 != 45) = true := bne_iff_ne.mpr c34
            by_cases c35 : a0 = 46
            · rw [if_pos c35] at H
              have c35b0 : (a0 == 46) = true := beq_iff_eq.mpr c35
              have c35b1 : (a0 != 46) = false := bne_eq_false_iff_eq.mpr c35
              clear c35
              obtain rfl := Option.some.inj H
              go_enter Tryz.func73, Tryz.ntmps73
              go_wp2
              go_ret
              exact ⟨by first | rfl | (simp; done) | (simp [*]; done) | (simp; (generalize ByteArray.toList _ = z_); cases z_ <;> rfl), by repeat (first | exact Drawn0.refl _ | apply Drawn0.step)⟩
            · rw [if_neg c35] at H
              have c35b0 : (a0 == 46) = false := beq_eq_false_iff_ne.mpr c35
              have c35b1 : (a0 != 46) = true := bne_iff_ne.mpr c35
              by_cases c36 : a0 = 95
              · rw [if_pos c36] at H
                have c36b0 : (a0 == 95) = true := beq_iff_eq.mpr c36
                have c36b1 : (a0 != 95) = false := bne_eq_false_iff_eq.mpr c36
                clear c36
                obtain rfl := Option.some.inj H
                go_enter Tryz.func73, Tryz.ntmps73
                go_wp2
                go_ret
                exact ⟨by first | rfl | (simp; done) | (simp [*]; done) | (simp; (generalize ByteArray.toList _ = z_); cases z_ <;> rfl), by repeat (first | exact Drawn0.refl _ | apply Drawn0.step)⟩
              · rw [if_neg c36] at H
                have c36b0 : (a0 == 95) = false := beq_eq_false_iff_ne.mpr c36
                have c36b1 : (a0 != 95) = true := bne_iff_ne.mpr c36
                obtain rfl := Option.some.inj H
                go_enter Tryz.func73, Tryz.ntmps73
                go_wp2
                go_ret
                exact ⟨by first | rfl | (simp; done) | (simp [*]; done) | (simp; (generalize ByteArray.toList _ = z_); cases z_ <;> rfl), by repeat (first | exact Drawn0.refl _ | apply Drawn0.step)⟩
      · rw [if_neg c32] at H
        have c32b0 : decide (48 ≤ a0) = false := decide_eq_false c32
        clear c32
        by_cases c37 : a0 = 45
        · rw [if_pos c37] at H
          have c37b0 : (a0 == 45) = true := beq_iff_eq.mpr c37
          have c37b1 : (a0 != 45) = false := bne_eq_false_iff_eq.mpr c37
          clear c37
          obtain rfl := Option.some.inj H
          go_enter Tryz.func73, Tryz.ntmps73
          go_wp2
          go_ret
          exact ⟨by first | rfl | (simp; done) | (simp [*]; done) | (simp; (generalize ByteArray.toList _ = z_); cases z_ <;> rfl), by repeat (first | exact Drawn0.refl _ | apply Drawn0.step)⟩
        · rw [if_neg c37] at H
          have c37b0 : (a0 == 45) = false := beq_eq_false_iff_ne.mpr c37
          have c37b1 : (a0 != 45) = true := bne_iff_ne.mpr c37
          by_cases c38 : a0 = 46
          · rw [if_pos c38] at H
            have c38b0 : (a0 == 46) = true := beq_iff_eq.mpr c38
            have c38b1 : (a0 != 46) = false := bne_eq_false_iff_eq.mpr c38
            clear c38
            obtain rfl := Option.some.inj H
            go_enter Tryz.func73, Tryz.ntmps73
            go_wp2
            go_ret
            exact ⟨by first | rfl | (simp; done) | (simp [*]; done) | (simp; (generalize ByteArray.toList _ = z_); cases z_ <;> rfl), by repeat (first | exact Drawn0.refl _ | apply Drawn0.step)⟩
          · rw [if_neg c38] at H
            have c38b0 : (a0 == 46) = false := beq_eq_false_iff_ne.mpr c38
            have c38b1 : (a0 != 46) = true := bne_iff_ne.mpr c38
            by_cases c39 : a0 = 95
            · rw [if_pos c39] at H
              have c39b0 : (a0 == 95) = true := beq_iff_eq.mpr c39
              have c39b1 : (a0 != 95) = false := bne_eq_false_iff_eq.mpr c39
              clear c39
              obtain rfl := Option.some.inj H
              go_enter Tryz.func73, Tryz.ntmps73
              go_wp2
              go_ret
              exact ⟨by first | rfl | (simp; done) | (simp [*]; done) | (simp; (generalize ByteArray.toList _ = z_); cases z_ <;> rfl), by repeat (first | exact Drawn0.refl _ | apply Drawn0.step)⟩
            · rw [if_neg c39] at H
              have c39b0 : (a0 == 95) = false := beq_eq_false_iff_ne.mpr c39
              have c39b1 : (a0 != 95) = true := bne_iff_ne.mpr c39
              obtain rfl := Option.some.inj H
              go_enter Tryz.func73, Tryz.ntmps73
              go_wp2
              go_ret
              exact ⟨by first | rfl | (simp; done) | (simp [*]; done) | (simp; (generalize ByteArray.toList _ = z_); cases z_ <;> rfl), by repeat (first | exact Drawn0.refl _ | apply Drawn0.step)⟩
end Go.Proofs.YtmimipgmhgalaaaGreatDoor.PAll
end
section
namespace Go.Proofs.YtmimipgmhgalaaaGreatDoor.PAll
open Go.RowKit Go.Proofs.YtmimipgmhgalaaaGreatDoorW.PrintWords Go.Proofs.YtmimipgmhgalaaaGreatDoorW.PrintLast Go.Proofs.YtmimipgmhgalaaaGreatDoorW.PrintMore
attribute [local go_sem] max2_int min2_int max_two min_two max_three min_three max_four min_four
set_option linter.unusedVariables false
set_option linter.unusedSimpArgs false
attribute [local go_sem] IntKind.wrap_u8
def wicketref03_Escape.l0 : Nat → ByteArray → List Int → ByteArray → Int → Option (ByteArray)
  | 0, _, _, _, _ => none
  | k + 1, x0, x3, x4, x5 => if x5 < (x0.size : Int) then (if 0 ≤ x5 then ((wicketref03_plain.f (bt x0 x5)).bind fun t463 => (if t463 = true then (if x3.length < 140737488355328 then (wicketref03_Escape.l0 k x0 (x3 ++ [bt x0 x5]) x4 (wrap64 (x5 + 1))) else (none)) else (if (bt x0 x5) = 32 then (if x3.length < 140737488355328 then (wicketref03_Escape.l0 k x0 (x3 ++ [43]) x4 (wrap64 (x5 + 1))) else (none)) else (if 0 ≤ ((Int.tdiv (bt x0 x5) 16) % 256) then (if ((Int.tdiv (bt x0 x5) 16) % 256) < (x4.size : Int) then (if 0 ≤ (Int.tmod (bt x0 x5) 16) then (if (Int.tmod (bt x0 x5) 16) < (x4.size : Int) then ((some (([37, bt x4 ((Int.tdiv (bt x0 x5) 16) % 256), bt x4 (Int.tmod (bt x0 x5) 16)] : List Int) : List Int)).bind fun y470 => (if x3.length + y470.length < 140737488355328 then (wicketref03_Escape.l0 k x0 (x3 ++ y470) x4 (wrap64 (x5 + 1))) else (none))) else (none)) else (none)) else (none)) else (none))))) else (none)) else (some (strOfNums x3))
def wicketref03_Escape.f (k : Nat) (a0 : ByteArray) : Option (ByteArray) := wicketref03_Escape.l0 k a0 ([] : List Int) (⟨#[48, 49, 50, 51, 52, 53, 54, 55, 56, 57, 65, 66, 67, 68, 69, 70]⟩ : ByteArray) 0
def wicketref03_Escape.T7 : Bool × List (List Nat × List Nat) := (true, [([], []), ([], []), ([], []), ([2], [2]), ([1, 3], [1, 3]), ([], []), ([], []), ([6], [6]), ([5, 7], [5, 7]), ([4, 8], [4, 8]), ([0, 9], [0, 9]), ([10, 10, 0, 1, 2, 3, 4, 5, 6, 7, 8, 9, 10], [0, 10])])
def wicketref03_Escape.B7 : List Nat := [0, 0, 0, 4, 14, 0, 0, 64, 224, 510, 1023, 2047]
theorem wicketref03_Escape.tab7 : rtab .any (opsOf Tryz.f41 7) = wicketref03_Escape.T7 := by kernel_rfl
theorem wicketref03_Escape.bits7 : waitsOk wicketref03_Escape.T7.2 wicketref03_Escape.B7 = true := by kernel_rfl
set_option maxHeartbeats 8000000 in
set_option maxRecDepth 100000 in
theorem wicketref03_Escape.calls (k : Nat) (a0 : ByteArray) (r : ByteArray) (w : World) (h : wicketref03_Escape.f k a0 = some r) :
    Calls Tryz.prog 41 #[.string a0] w fun e w' => e = .returned (.string r) ∧ Below w.heap.size w w' := by
  have HB := Aside0.mk (Below.refl w.heap.size w)
  have H : (wicketref03_Escape.l0 k a0 ([] : List Int) (⟨#[48, 49, 50, 51, 52, 53, 54, 55, 56, 57, 65, 66, 67, 68, 69, 70]⟩ : ByteArray) 0) = some r := h
  clear h
  have H' := Aside0.mk H
  clear H
  go_enter Tryz.func41, Tryz.ntmps41
  go_wp2
  go_loopg [3, 5] k (fun kq v3 v5 w' => ∃ (x3_1 : List Int) (x5_1 : Int), v5 = .int .i64 x5_1 ∧ Aside0 (wicketref03_Escape.l0 kq a0 x3_1 (⟨#[48, 49, 50, 51, 52, 53, 54, 55, 56, 57, 65, 66, 67, 68, 69, 70]⟩ : ByteArray) x5_1 = some r) ∧ Aside0 (kq ≤ k) ∧ Aside0 (Kd.R (Kd.int .u8) 5 w' w.heap.size (fun _ => True) v3 x3_1) ∧ Aside0 (Below w.heap.size w w'))
  case atStart => exact ⟨(([] : List Int)), (0), (by first | rfl | (simp; done) | (simp [*]; done) | (simp; (generalize ByteArray.toList _ = z_); cases z_ <;> rfl)), H', ⟨Nat.le_refl _⟩, ⟨by first | exact Kd.R_nil _ _ _ _ _ | exact Kd.N_nil _ _ _ _ _ | exact Kd.V_nil _ _ _ _ _ | exact Kd.Q_nil _ _ _ _ _ | exact Kd.S_nil _ _ _ _ _⟩, ⟨by repeat (first | (with_reducible first | exact HB.out | apply below_alloc | apply pw_below_drewN | apply below_drew1) | exact HB.out)⟩⟩
  case round =>
    clear H'
    obtain ⟨x3_1, x5_1, rfl, HA, HK1, HO_3, HB⟩ := hrel
    cases gk with
    | zero => exact absurd HA.out (by simp [wicketref03_Escape.l0])
    | succ k1 =>
      have H := HA.out
      clear HA
      simp only [wicketref03_Escape.l0] at H
      by_cases c2 : x5_1 < (a0.size : Int)
      · rw [if_pos c2] at H
        have c2b0 : decide (x5_1 < (a0.size : Int)) = true := decide_eq_true c2
        clear c2
        by_cases c3 : 0 ≤ x5_1
        · rw [if_pos c3] at H
          have c3b0 : decide (0 ≤ x5_1) = true := decide_eq_true c3
          clear c3
          replace H := Option.bind_eq_some_iff.mp H
          obtain ⟨t463, A50, H⟩ := H
          replace H : (if t463 = true then (if x3_1.length < 140737488355328 then (wicketref03_Escape.l0 k1 a0 (x3_1 ++ [bt a0 x5_1]) (⟨#[48, 49, 50, 51, 52, 53, 54, 55, 56, 57, 65, 66, 67, 68, 69, 70]⟩ : ByteArray) (wrap64 (x5_1 + 1))) else (none)) else (if (bt a0 x5_1) = 32 then (if x3_1.length < 140737488355328 then (wicketref03_Escape.l0 k1 a0 (x3_1 ++ [43]) (⟨#[48, 49, 50, 51, 52, 53, 54, 55, 56, 57, 65, 66, 67, 68, 69, 70]⟩ : ByteArray) (wrap64 (x5_1 + 1))) else (none)) else (if 0 ≤ ((Int.tdiv (bt a0 x5_1) 16) % 256) then (if ((Int.tdiv (bt a0 x5_1) 16) % 256) < ((⟨#[48, 49, 50, 51, 52, 53, 54, 55, 56, 57, 65, 66, 67, 68, 69, 70]⟩ : ByteArray).size : Int) then (if 0 ≤ (Int.tmod (bt a0 x5_1) 16) then (if (Int.tmod (bt a0 x5_1) 16) < ((⟨#[48, 49, 50, 51, 52, 53, 54, 55, 56, 57, 65, 66, 67, 68, 69, 70]⟩ : ByteArray).size : Int) then ((some (([37, bt (⟨#[48, 49, 50, 51, 52, 53, 54, 55, 56, 57, 65, 66, 67, 68, 69, 70]⟩ : ByteArray) ((Int.tdiv (bt a0 x5_1) 16) % 256), bt (⟨#[48, 49, 50, 51, 52, 53, 54, 55, 56, 57, 65, 66, 67, 68, 69, 70]⟩ : ByteArray) (Int.tmod (bt a0 x5_1) 16)] : List Int) : List Int)).bind fun y470 => (if x3_1.length + y470.length < 140737488355328 then (wicketref03_Escape.l0 k1 a0 (x3_1 ++ y470) (⟨#[48, 49, 50, 51, 52, 53, 54, 55, 56, 57, 65, 66, 67, 68, 69, 70]⟩ : ByteArray) (wrap64 (x5_1 + 1))) else (none))) else (none)) else (none)) else (none)) else (none)))) = some r := H
          have A5 := Aside0.mk A50
          clear A50
          by_cases c6 : t463 = true
          · subst c6
            have H1 : (if x3_1.length < 140737488355328 then (wicketref03_Escape.l0 k1 a0 (x3_1 ++ [bt a0 x5_1]) (⟨#[48, 49, 50, 51, 52, 53, 54, 55, 56, 57, 65, 66, 67, 68, 69, 70]⟩ : ByteArray) (wrap64 (x5_1 + 1))) else (none)) = some r := by rw [if_pos rfl] at H; exact H
            clear H
            have H := H1
            clear H1
            by_cases c7 : x3_1.length < 140737488355328
            · rw [if_pos c7] at H
              have LMc7 := Aside0.mk c7
              clear c7
              obtain ⟨y464, hy464⟩ : ∃ y_ : List Int, y_ = (x3_1 ++ [bt a0 x5_1]) := ⟨_, rfl⟩
              replace H : (wicketref03_Escape.l0 k1 a0 y464 (⟨#[48, 49, 50, 51, 52, 53, 54, 55, 56, 57, 65, 66, 67, 68, 69, 70]⟩ : ByteArray) (wrap64 (x5_1 + 1))) = some r := by first | (rw [hy464]; with_reducible exact H) | (have H2_ := (Option.bind_some _ _).symm.trans H; rw [hy464]; with_reducible exact H2_) | (have H2_ := (Option.bind_some _ _).symm.trans H; with_reducible exact H2_) | with_reducible exact H | (rw [hy464]; exact H) | exact H
              have Ny464 := Aside0.mk hy464
              clear hy464
              have H' := Aside0.mk H
              clear H
              have p4 : 0 ≤ (x5_1 : Int) := of_decide_eq_true (by first | (with_reducible assumption) | assumption)
              have q4 : x5_1 < (a0.size : Int) := of_decide_eq_true (by first | (with_reducible assumption) | assumption)
              have hx4 := bt_at a0 x5_1
              replace p4 := eq_true p4
              replace q4 := eq_true q4
              go_wp2_with (first | ((with_reducible refine gate_callee (f := 73) rfl ?_); refine goesL_ (some 29) rfl rfl Tryz.func73 (by kernel_rfl) rfl #[.int .u8 (bt a0 x5_1)] rfl (by (try simp only [List.map_toArray, List.map_cons, List.map_nil]); first | done | rfl | (simp only [List.length_drop, List.length_take]; rfl)) ?_; (with_reducible refine (wicketref03_plain.calls (bt a0 x5_1) true _ A5.out).mono ?_); rintro e w' ⟨rfl, ⟨nd, rfl⟩⟩; refine ⟨_, rfl, ?_⟩) | ((with_reducible refine gate_builtin (b := .append) (xs := #[.tmp 30, .tmp 32]) rfl ?_); at_builtin; refine Kd.R_append (Kd.int .u8) (w0 := w) w.heap.size rfl (.tmp 30) (.tmp 32) 79 5 (.int .u8 0) 1 rfl Tryz.underlying79 info5 rfl (by decide) (by omega) u3 x3_1 (bt a0 x5_1) [.int .u8 (bt a0 x5_1)] (fun _ => True) (fun _ => False) rfl rfl ?aP (fun _ hk => hk.elim) ?aF ?aO ?aB ?aS ?aL ?_; (case aP => exact rfl); (case aB => exact (by repeat (first | (with_reducible first | exact HB.out | apply below_alloc | apply pw_below_drewN | apply below_drew1) | exact HB.out))); (case aF => exact (fun _ _ => trivial)); (case aO => exact (by (with_reducible repeat (first | apply Kd.R_alloc | apply Kd.R_drewN | apply Kd.R_drew)); exact HO_3.out)); (case aS => exact (below_size (by repeat (first | (with_reducible first | exact HB.out | apply below_alloc | apply pw_below_drewN | apply below_drew1) | exact HB.out)))); (case aL => have := LMc7.out; omega); intro v465 w8 ho hb hg hat; rw [← Ny464.out] at ho; have n0_ := Aside0.mk (hb); have n1_ := Aside0.mk (ho); clear HB; clear HO_3; have HB := n0_; have HO466 := n1_; clear n0_ n1_; clear ho hb hg hat))
              go_roundg k1
              case measure => have := HK1.out; omega
              case rel => exact ⟨(y464), (wrap64 (x5_1 + 1)), (by first | rfl | (simp; done) | (simp [*]; done) | (simp; (generalize ByteArray.toList _ = z_); cases z_ <;> rfl)), H', ⟨by have := HK1.out; omega⟩, ⟨by (with_reducible repeat (first | apply Kd.R_alloc | apply Kd.R_drewN | apply Kd.R_drew)); exact HO466.out⟩, ⟨by repeat (first | (with_reducible first | exact HB.out | apply below_alloc | apply pw_below_drewN | apply below_drew1) | exact HB.out)⟩⟩
            · rw [if_neg c7] at H
              exact absurd H (by simp)
          · replace c6 := Bool.eq_false_iff.mpr c6
            subst c6
            have H1 : (if (bt a0 x5_1) = 32 then (if x3_1.length < 140737488355328 then (wicketref03_Escape.l0 k1 a0 (x3_1 ++ [43]) (⟨#[48, 49, 50, 51, 52, 53, 54, 55, 56, 57, 65, 66, 67, 68, 69, 70]⟩ : ByteArray) (wrap64 (x5_1 + 1))) else (none)) else (if 0 ≤ ((Int.tdiv (bt a0 x5_1) 16) % 256) then (if ((Int.tdiv (bt a0 x5_1) 16) % 256) < ((⟨#[48, 49, 50, 51, 52, 53, 54, 55, 56, 57, 65, 66, 67, 68, 69, 70]⟩ : ByteArray).size : Int) then (if 0 ≤ (Int.tmod (bt a0 x5_1) 16) then (if (Int.tmod (bt a0 x5_1) 16) < ((⟨#[48, 49, 50, 51, 52, 53, 54, 55, 56, 57, 65, 66, 67, 68, 69, 70]⟩ : ByteArray).size : Int) then ((some (([37, bt (⟨#[48, 49, 50, 51, 52, 53, 54, 55, 56, 57, 65, 66, 67, 68, 69, 70]⟩ : ByteArray) ((Int.tdiv (bt a0 x5_1) 16) % 256), bt (⟨#[48, 49, 50, 51, 52, 53, 54, 55, 56, 57, 65, 66, 67, 68, 69, 70]⟩ : ByteArray) (Int.tmod (bt a0 x5_1) 16)] : List Int) : List Int)).bind fun y470 => (if x3_1.length + y470.length < 140737488355328 then (wicketref03_Escape.l0 k1 a0 (x3_1 ++ y470) (⟨#[48, 49, 50, 51, 52, 53, 54, 55, 56, 57, 65, 66, 67, 68, 69, 70]⟩ : ByteArray) (wrap64 (x5_1 + 1))) else (none))) else (none)) else (none)) else (none)) else (none))) = some r := by rw [if_neg (show ¬ (false = true) by decide)] at H; exact H
            clear H
            have H := H1
            clear H1
            by_cases c9 : (bt a0 x5_1) = 32
            · rw [if_pos c9] at H
              have c9b0 : ((bt a0 x5_1) == 32) = true := beq_iff_eq.mpr c9
              have c9b1 : ((bt a0 x5_1) != 32) = false := bne_eq_false_iff_eq.mpr c9
              clear c9
              by_cases c10 : x3_1.length < 140737488355328
              · rw [if_pos c10] at H
                have LMc10 := Aside0.mk c10
                clear c10
                obtain ⟨y467, hy467⟩ : ∃ y_ : List Int, y_ = (x3_1 ++ [43]) := ⟨_, rfl⟩
                replace H : (wicketref03_Escape.l0 k1 a0 y467 (⟨#[48, 49, 50, 51, 52, 53, 54, 55, 56, 57, 65, 66, 67, 68, 69, 70]⟩ : ByteArray) (wrap64 (x5_1 + 1))) = some r := by first | (rw [hy467]; with_reducible exact H) | (have H2_ := (Option.bind_some _ _).symm.trans H; rw [hy467]; with_reducible exact H2_) | (have H2_ := (Option.bind_some _ _).symm.trans H; with_reducible exact H2_) | with_reducible exact H | (rw [hy467]; exact H) | exact H
                have Ny467 := Aside0.mk hy467
                clear hy467
                have H' := Aside0.mk H
                clear H
                have p4 : 0 ≤ (x5_1 : Int) := of_decide_eq_true (by first | (with_reducible assumption) | assumption)
                have q4 : x5_1 < (a0.size : Int) := of_decide_eq_true (by first | (with_reducible assumption) | assumption)
                have hx4 := bt_at a0 x5_1
                replace p4 := eq_true p4
                replace q4 := eq_true q4
                go_wp2_with (first | ((with_reducible refine gate_callee (f := 73) rfl ?_); refine goesL_ (some 29) rfl rfl Tryz.func73 (by kernel_rfl) rfl #[.int .u8 (bt a0 x5_1)] rfl (by (try simp only [List.map_toArray, List.map_cons, List.map_nil]); first | done | rfl | (simp only [List.length_drop, List.length_take]; rfl)) ?_; (with_reducible refine (wicketref03_plain.calls (bt a0 x5_1) false _ A5.out).mono ?_); rintro e w' ⟨rfl, ⟨nd, rfl⟩⟩; refine ⟨_, rfl, ?_⟩) | ((with_reducible refine gate_builtin (b := .append) (xs := #[.tmp 37, .tmp 38]) rfl ?_); at_builtin; refine Kd.R_append (Kd.int .u8) (w0 := w) w.heap.size rfl (.tmp 37) (.tmp 38) 79 5 (.int .u8 0) 1 rfl Tryz.underlying79 info5 rfl (by decide) (by omega) u3 x3_1 43 [.int .u8 43] (fun _ => True) (fun _ => False) rfl rfl ?aP (fun _ hk => hk.elim) ?aF ?aO ?aB ?aS ?aL ?_; (case aP => exact rfl); (case aB => exact (by repeat (first | (with_reducible first | exact HB.out | apply below_alloc | apply pw_below_drewN | apply below_drew1) | exact HB.out))); (case aF => exact (fun _ _ => trivial)); (case aO => exact (by (with_reducible repeat (first | apply Kd.R_alloc | apply Kd.R_drewN | apply Kd.R_drew)); exact HO_3.out)); (case aS => exact (below_size (by repeat (first | (with_reducible first | exact HB.out | apply below_alloc | apply pw_below_drewN | apply below_drew1) | exact HB.out)))); (case aL => have := LMc10.out; omega); intro v468 w11 ho hb hg hat; rw [← Ny467.out] at ho; have n0_ := Aside0.mk (hb); have n1_ := Aside0.mk (ho); clear HB; clear HO_3; have HB := n0_; have HO469 := n1_; clear n0_ n1_; clear ho hb hg hat))
                go_roundg k1
                case measure => have := HK1.out; omega
                case rel => exact ⟨(y467), (wrap64 (x5_1 + 1)), (by first | rfl | (simp; done) | (simp [*]; done) | (simp; (generalize ByteArray.toList _ = z_); cases z_ <;> rfl)), H', ⟨by have := HK1.out; omega⟩, ⟨by (with_reducible repeat (first | apply Kd.R_alloc | apply Kd.R_drewN | apply Kd.R_drew)); exact HO469.out⟩, ⟨by repeat (first | (with_reducible first | exact HB.out | apply below_alloc | apply pw_below_drewN | apply below_drew1) | exact HB.out)⟩⟩
              · rw [if_neg c10] at H
                exact absurd H (by simp)
            · rw [if_neg c9] at H
              have c9b0 : ((bt a0 x5_1) == 32) = false := beq_eq_false_iff_ne.mpr c9
              have c9b1 : ((bt a0 x5_1) != 32) = true := bne_iff_ne.mpr c9
              obtain ⟨ji12, hji12⟩ : ∃ j_ : Int, ((Int.tdiv (bt a0 x5_1) 16) % 256) = j_ := ⟨_, rfl⟩
              replace H : (if 0 ≤ (ji12) then (if (ji12) < ((⟨#[48, 49, 50, 51, 52, 53, 54, 55, 56, 57, 65, 66, 67, 68, 69, 70]⟩ : ByteArray).size : Int) then (if 0 ≤ (Int.tmod (bt a0 x5_1) 16) then (if (Int.tmod (bt a0 x5_1) 16) < ((⟨#[48, 49, 50, 51, 52, 53, 54, 55, 56, 57, 65, 66, 67, 68, 69, 70]⟩ : ByteArray).size : Int) then ((some (([37, bt (⟨#[48, 49, 50, 51, 52, 53, 54, 55, 56, 57, 65, 66, 67, 68, 69, 70]⟩ : ByteArray) (ji12), bt (⟨#[48, 49, 50, 51, 52, 53, 54, 55, 56, 57, 65, 66, 67, 68, 69, 70]⟩ : ByteArray) (Int.tmod (bt a0 x5_1) 16)] : List Int) : List Int)).bind fun y470 => (if x3_1.length + y470.length < 140737488355328 then (wicketref03_Escape.l0 k1 a0 (x3_1 ++ y470) (⟨#[48, 49, 50, 51, 52, 53, 54, 55, 56, 57, 65, 66, 67, 68, 69, 70]⟩ : ByteArray) (wrap64 (x5_1 + 1))) else (none))) else (none)) else (none)) else (none)) else (none)) = some r := by first | (rw [hji12] at H; exact H) | (simp only [hji12] at H ⊢; exact H)
              (try rw [hji12] at A5)
              by_cases c13 : 0 ≤ (ji12)
              · rw [if_pos c13] at H
                have c13b0 : decide (0 ≤ (ji12)) = true := decide_eq_true c13
                clear c13
                by_cases c14 : (ji12) < ((⟨#[48, 49, 50, 51, 52, 53, 54, 55, 56, 57, 65, 66, 67, 68, 69, 70]⟩ : ByteArray).size : Int)
                · rw [if_pos c14] at H
                  have c14b0 : decide ((ji12) < ((⟨#[48, 49, 50, 51, 52, 53, 54, 55, 56, 57, 65, 66, 67, 68, 69, 70]⟩ : ByteArray).size : Int)) = true := decide_eq_true c14
                  clear c14
                  obtain ⟨ji16, hji16⟩ : ∃ j_ : Int, (Int.tmod (bt a0 x5_1) 16) = j_ := ⟨_, rfl⟩
                  replace H : (if 0 ≤ (ji16) then (if (ji16) < ((⟨#[48, 49, 50, 51, 52, 53, 54, 55, 56, 57, 65, 66, 67, 68, 69, 70]⟩ : ByteArray).size : Int) then ((some (([37, bt (⟨#[48, 49, 50, 51, 52, 53, 54, 55, 56, 57, 65, 66, 67, 68, 69, 70]⟩ : ByteArray) (ji12), bt (⟨#[48, 49, 50, 51, 52, 53, 54, 55, 56, 57, 65, 66, 67, 68, 69, 70]⟩ : ByteArray) (ji16)] : List Int) : List Int)).bind fun y470 => (if x3_1.length + y470.length < 140737488355328 then (wicketref03_Escape.l0 k1 a0 (x3_1 ++ y470) (⟨#[48, 49, 50, 51, 52, 53, 54, 55, 56, 57, 65, 66, 67, 68, 69, 70]⟩ : ByteArray) (wrap64 (x5_1 + 1))) else (none))) else (none)) else (none)) = some r := by first | (rw [hji16] at H; exact H) | (simp only [hji16] at H ⊢; exact H)
                  (try rw [hji16] at A5)
                  by_cases c17 : 0 ≤ (ji16)
                  · rw [if_pos c17] at H
                    have c17b0 : decide (0 ≤ (ji16)) = true := decide_eq_true c17
                    clear c17
                    by_cases c18 : (ji16) < ((⟨#[48, 49, 50, 51, 52, 53, 54, 55, 56, 57, 65, 66, 67, 68, 69, 70]⟩ : ByteArray).size : Int)
                    · rw [if_pos c18] at H
                      have c18b0 : decide ((ji16) < ((⟨#[48, 49, 50, 51, 52, 53, 54, 55, 56, 57, 65, 66, 67, 68, 69, 70]⟩ : ByteArray).size : Int)) = true := decide_eq_true c18
                      clear c18
                      obtain ⟨y470, hy470⟩ : ∃ y_ : List Int, y_ = (([37, bt (⟨#[48, 49, 50, 51, 52, 53, 54, 55, 56, 57, 65, 66, 67, 68, 69, 70]⟩ : ByteArray) (ji12), bt (⟨#[48, 49, 50, 51, 52, 53, 54, 55, 56, 57, 65, 66, 67, 68, 69, 70]⟩ : ByteArray) (ji16)] : List Int)) := ⟨_, rfl⟩
                      replace H : (if x3_1.length + y470.length < 140737488355328 then (wicketref03_Escape.l0 k1 a0 (x3_1 ++ y470) (⟨#[48, 49, 50, 51, 52, 53, 54, 55, 56, 57, 65, 66, 67, 68, 69, 70]⟩ : ByteArray) (wrap64 (x5_1 + 1))) else (none)) = some r := by first | (rw [hy470]; with_reducible exact H) | (have H2_ := (Option.bind_some _ _).symm.trans H; rw [hy470]; with_reducible exact H2_) | (have H2_ := (Option.bind_some _ _).symm.trans H; with_reducible exact H2_) | with_reducible exact H | (rw [hy470]; exact H) | exact H
                      have Ny470 := Aside0.mk hy470
                      clear hy470
                      by_cases c20 : x3_1.length + y470.length < 140737488355328
                      · rw [if_pos c20] at H
                        have LMc20 := Aside0.mk c20
                        clear c20
                        obtain ⟨y473, hy473⟩ : ∃ y_ : List Int, y_ = (x3_1 ++ y470) := ⟨_, rfl⟩
                        replace H : (wicketref03_Escape.l0 k1 a0 y473 (⟨#[48, 49, 50, 51, 52, 53, 54, 55, 56, 57, 65, 66, 67, 68, 69, 70]⟩ : ByteArray) (wrap64 (x5_1 + 1))) = some r := by first | (rw [hy473]; with_reducible exact H) | (have H2_ := (Option.bind_some _ _).symm.trans H; rw [hy473]; with_reducible exact H2_) | (have H2_ := (Option.bind_some _ _).symm.trans H; with_reducible exact H2_) | with_reducible exact H | (rw [hy473]; exact H) | exact H
                        have Ny473 := Aside0.mk hy473
                        clear hy473
                        have H' := Aside0.mk H
                        clear H
                        have p4 : 0 ≤ (x5_1 : Int) := of_decide_eq_true (by first | (with_reducible assumption) | assumption)
                        have q4 : x5_1 < (a0.size : Int) := of_decide_eq_true (by first | (with_reducible assumption) | assumption)
                        have hx4 := bt_at a0 x5_1
                        replace p4 := eq_true p4
                        replace q4 := eq_true q4
                        try go_wp2_with (first | ((with_reducible refine gate_callee (f := 73) rfl ?_); refine goesL_ (some 29) rfl rfl Tryz.func73 (by kernel_rfl) rfl #[.int .u8 (bt a0 x5_1)] rfl (by (try simp only [List.map_toArray, List.map_cons, List.map_nil]); first | done | rfl | (simp only [List.length_drop, List.length_take]; rfl)) ?_; (with_reducible refine (wicketref03_plain.calls (bt a0 x5_1) false _ A5.out).mono ?_); rintro e w' ⟨rfl, ⟨nd, rfl⟩⟩; refine ⟨_, rfl, ?_⟩))
                        (try (rw [drewN_self wr]; generalize hq_ : World.drewN wr _ = wr; have n0_ : Aside0 (Kd.R (Kd.int .u8) 5 wr w.heap.size (fun _ => True) u3 x3_1) := ⟨by rw [← hq_]; exact (by (with_reducible repeat (first | apply Kd.R_alloc | apply Kd.R_drewN | apply Kd.R_drew)); exact HO_3.out)⟩; have n1_ : Aside0 (Below w.heap.size w wr) := ⟨by rw [← hq_]; exact (by repeat (first | (with_reducible first | exact HB.out | apply below_alloc | apply pw_below_drewN | apply below_drew1) | exact HB.out))⟩; clear HO_3 HB hq_; have HO_3 := n0_; have HB := n1_; clear n0_ n1_))
                        have n0_ := Aside0.mk (Kd.R_drew HO_3.out)
                        have n1_ := Aside0.mk (below_drew1 HB.out)
                        clear HO_3
                        clear HB
                        have HO_3 := n0_
                        have HB := n1_
                        clear n0_ n1_
                        have p15 : 0 ≤ ((ji12) : Int) := of_decide_eq_true (by first | (with_reducible assumption) | assumption)
                        have q15 : (ji12) < (16 : Int) := of_decide_eq_true (by first | (with_reducible assumption) | assumption)
                        have hx15 := bt_at (⟨#[48, 49, 50, 51, 52, 53, 54, 55, 56, 57, 65, 66, 67, 68, 69, 70]⟩ : ByteArray) (ji12)
                        replace p15 := eq_true p15
                        replace q15 := eq_true q15
                        have p19 : 0 ≤ ((ji16) : Int) := of_decide_eq_true (by first | (with_reducible assumption) | assumption)
                        have q19 : (ji16) < (16 : Int) := of_decide_eq_true (by first | (with_reducible assumption) | assumption)
                        have hx19 := bt_at (⟨#[48, 49, 50, 51, 52, 53, 54, 55, 56, 57, 65, 66, 67, 68, 69, 70]⟩ : ByteArray) (ji16)
                        replace p19 := eq_true p19
                        replace q19 := eq_true q19
                        refine start_ (n := 12) (S := fun w' => True) (ds := []) #[false, false, false, false, false, false, false, false, false, false, false, false] (by kernel_rfl) rfl rfl trivial (fun hHeld => ?_); refine with_tabW wicketref03_Escape.tab7 wicketref03_Escape.bits7 (fun HT_ HW_ => ?_)
                        generalize wr.drew = w21 at HO_3 HB hHeld ⊢
                        refine pure_ (i := 0) (N := some 16) (v := ?_) (a' := ?_) #[true, false, false, false, false, false, false, false, false, false, false, false] rfl rfl (any_of HT_.out (by kernel_rfl)) (fun _ _ _ h => h) (Or.inl ⟨by rfl, ?_⟩) ?_ ?_
                        rotate_left
                        · intro w'
                          go_simp
                          with_reducible rfl
                        rotate_left
                        · simp only [Act.put, List.setIfInBounds_toArray, List.set_cons_zero, List.set_cons_succ, i64_w, i32_w]
                          rfl
                        refine pure_ (i := 1) (N := some 17) (v := ?_) (a' := ?_) #[true, true, false, false, false, false, false, false, false, false, false, false] rfl rfl (any_of HT_.out (by kernel_rfl)) (fun _ _ _ h => h) (Or.inl ⟨by rfl, ?_⟩) ?_ ?_
                        rotate_left
                        · intro w'
                          go_simp
                          with_reducible rfl
                        rotate_left
                        · simp only [Act.put, List.setIfInBounds_toArray, List.set_cons_zero, List.set_cons_succ, i64_w, i32_w]
                          rfl
                        refine pure_ (i := 2) (N := some 18) (v := ?_) (a' := ?_) #[true, true, true, false, false, false, false, false, false, false, false, false] rfl rfl (any_of HT_.out (by kernel_rfl)) (fun _ _ _ h => h) (Or.inl ⟨by rfl, ?_⟩) ?_ ?_
                        rotate_left
                        · intro w'
                          go_simp
                          with_reducible rfl
                        rotate_left
                        · simp only [Act.put, List.setIfInBounds_toArray, List.set_cons_zero, List.set_cons_succ, i64_w, i32_w]
                          rfl
                        refine pure_ (i := 3) (N := some 19) (v := ?_) (a' := ?_) #[true, true, true, true, false, false, false, false, false, false, false, false] rfl rfl (any_of HT_.out (by kernel_rfl)) (fun _ _ _ h => h) (Or.inl ⟨by rfl, ?_⟩) ?_ ?_
                        rotate_left
                        · intro w'
                          go_simp
                          with_reducible rfl
                        rotate_left
                        · simp only [Act.put, List.setIfInBounds_toArray, List.set_cons_zero, List.set_cons_succ, i64_w, i32_w]
                          rfl
                        refine pure_ (i := 5) (N := some 21) (v := ?_) (a' := ?_) #[true, true, true, true, false, true, false, false, false, false, false, false] rfl rfl (any_of HT_.out (by kernel_rfl)) (fun _ _ _ h => h) (Or.inl ⟨by rfl, ?_⟩) ?_ ?_
                        rotate_left
                        · intro w'
                          go_simp
                          with_reducible rfl
                        rotate_left
                        · simp only [Act.put, List.setIfInBounds_toArray, List.set_cons_zero, List.set_cons_succ, i64_w, i32_w]
                          rfl
                        refine pure_ (i := 6) (N := some 22) (v := ?_) (a' := ?_) #[true, true, true, true, false, true, true, false, false, false, false, false] rfl rfl (any_of HT_.out (by kernel_rfl)) (fun _ _ _ h => h) (Or.inl ⟨by rfl, ?_⟩) ?_ ?_
                        rotate_left
                        · intro w'
                          go_simp
                          with_reducible rfl
                        rotate_left
                        · simp only [Act.put, List.setIfInBounds_toArray, List.set_cons_zero, List.set_cons_succ, i64_w, i32_w]
                          rfl
                        refine pure_ (i := 7) (N := some 23) (v := ?_) (a' := ?_) #[true, true, true, true, false, true, true, true, false, false, false, false] rfl rfl (any_of HT_.out (by kernel_rfl)) (fun _ _ _ h => h) (Or.inl ⟨by rfl, ?_⟩) ?_ ?_
                        rotate_left
                        · intro w'
                          go_simp
                          with_reducible rfl
                        rotate_left
                        · simp only [Act.put, List.setIfInBounds_toArray, List.set_cons_zero, List.set_cons_succ, i64_w, i32_w]
                          rfl
                        refine take_ (i := 4) (N := some 20) (v := ?_) (a' := ?_) #[true, true, true, true, true, true, true, true, false, false, false, false] rfl rfl (take_ofW HT_.out HW_.out (by kernel_rfl)) (fun _ _ _ h => h) (Or.inl ⟨by rfl, ?_⟩) hHeld ?_ ?_
                        rotate_left
                        · intro w' _
                          go_simp
                          with_reducible rfl
                        rotate_left
                        · simp only [Act.put, List.setIfInBounds_toArray, List.set_cons_zero, List.set_cons_succ, i64_w, i32_w]
                          rfl
                        refine take_ (i := 8) (N := some 24) (v := ?_) (a' := ?_) #[true, true, true, true, true, true, true, true, true, false, false, false] rfl rfl (take_ofW HT_.out HW_.out (by kernel_rfl)) (fun _ _ _ h => h) (Or.inl ⟨by rfl, ?_⟩) hHeld ?_ ?_
                        rotate_left
                        · intro w' _
                          go_simp
                          with_reducible rfl
                        rotate_left
                        · simp only [Act.put, List.setIfInBounds_toArray, List.set_cons_zero, List.set_cons_succ, i64_w, i32_w]
                          rfl
                        refine one_ (i := 9) (N := some 25) #[true, true, true, true, true, true, true, true, true, true, false, false] rfl rfl (one_of HT_.out (by kernel_rfl)) (by decide) (fun K hK => ?_)
                        refine Kd.R_lit_step (Kd.int .u8) _ 5 ?hg (N := 25) ?hd (xs := ([37, bt (⟨#[48, 49, 50, 51, 52, 53, 54, 55, 56, 57, 65, 66, 67, 68, 69, 70]⟩ : ByteArray) (ji12), bt (⟨#[48, 49, 50, 51, 52, 53, 54, 55, 56, 57, 65, 66, 67, 68, 69, 70]⟩ : ByteArray) (ji16)] : List Int)) (inner := [.int .u8 37, .int .u8 (bt (⟨#[48, 49, 50, 51, 52, 53, 54, 55, 56, 57, 65, 66, 67, 68, 69, 70]⟩ : ByteArray) (ji12)), .int .u8 (bt (⟨#[48, 49, 50, 51, 52, 53, 54, 55, 56, 57, 65, 66, 67, 68, 69, 70]⟩ : ByteArray) (ji16))]) (ok := fun _ => True) (okp := fun _ => True) ?hr ?hp (fun _ hk => hk) trivial (Below.refl _ _) (Nat.le_refl _) (by simp) ?_; (case hd => rfl); (case hg => rfl); (case hr => first | (go_simp; done) | (go_simp; rfl)); (case hp => exact (Reps.one (show Kd.M (Kd.int .u8) _ _ _ 37 [.int .u8 37] from rfl) (Reps.one (show Kd.M (Kd.int .u8) _ _ _ (bt (⟨#[48, 49, 50, 51, 52, 53, 54, 55, 56, 57, 65, 66, 67, 68, 69, 70]⟩ : ByteArray) (ji12)) [.int .u8 (bt (⟨#[48, 49, 50, 51, 52, 53, 54, 55, 56, 57, 65, 66, 67, 68, 69, 70]⟩ : ByteArray) (ji12))] from rfl) (Reps.one (show Kd.M (Kd.int .u8) _ _ _ (bt (⟨#[48, 49, 50, 51, 52, 53, 54, 55, 56, 57, 65, 66, 67, 68, 69, 70]⟩ : ByteArray) (ji16)) [.int .u8 (bt (⟨#[48, 49, 50, 51, 52, 53, 54, 55, 56, 57, 65, 66, 67, 68, 69, 70]⟩ : ByteArray) (ji16))] from rfl) (Reps.none _ _)))))
                        intro v471 w22 ho23 hb hg_ hnew_
                        clear hg_ hnew_
                        (first | rw [← Ny470.out] at ho23 | (simp only [Int.reduceToNat] at ho23; rw [← Ny470.out] at ho23))
                        have n0_ := Aside0.mk (Kd.R_elder' (by (with_reducible repeat (first | apply Kd.R_alloc | apply Kd.R_drewN | apply Kd.R_drew)); exact HO_3.out) (Kd.R_base ho23) hb)
                        have n1_ := Aside0.mk (Kd.R_lower (Kd.R_new' ho23 (Kd.R_lt (by (with_reducible repeat (first | apply Kd.R_alloc | apply Kd.R_drewN | apply Kd.R_drew)); exact HO_3.out))) (below_size (by repeat (first | (with_reducible first | exact HB.out | apply below_alloc | apply pw_below_drewN | apply below_drew1) | exact HB.out))))
                        have n2_ := Aside0.mk (below_step (by repeat (first | (with_reducible first | exact HB.out | apply below_alloc | apply pw_below_drewN | apply below_drew1) | exact HB.out)) hb)
                        clear HO_3
                        clear HB
                        have HO_3 := n0_
                        have HO472 := n1_
                        have HB := n2_
                        clear n0_ n1_ n2_
                        clear hb ho23
                        obtain ⟨Ao25, co25, eo25⟩ := Kd.R_slice HO472.out
                        (first | subst eo25 | (injection eo25 with f1_ f2_ f3_; have f4_ := f1_.symm; have f5_ := f3_.symm; clear f1_ f2_ f3_; subst f4_; subst f5_))
                        refine hK.out _ _ trivial (fun hHeld => ?_)
                        clear hK K
                        refine norm_ (a' := ?_) ?_ ?_
                        rotate_left
                        · show Act.put _ (some 25) _ = _
                          simp only [Act.put, List.setIfInBounds_toArray, List.set_cons_zero, List.set_cons_succ, i64_w, i32_w]
                          rfl
                        refine one_ (i := 10) (N := some 26) #[true, true, true, true, true, true, true, true, true, true, true, false] rfl rfl (one_of HT_.out (by kernel_rfl)) (by decide) (fun K hK => ?_)
                        refine Kd.R_append_rows_step (Kd.int .u8) (w0 := w) w.heap.size (by rfl) (.tmp 16) (.tmp 25) 79 5 (.int .u8 0) 1 rfl Tryz.underlying79 info5 rfl (by decide) (by omega) u3 x3_1 y470 _ _ _ (fun k_ => some k_ ≠ (.slice Ao25 y470.length co25 : Value).ownBlock) (fun _ => False) rfl rfl ?aO ?aR (fun _ _ h => h) (fun _ h => h.elim) ?aF ?aB ?aS ?aL ?_
                        (case aR => repeat (first | exact (Kd.R_reads' HO472.out).2.2 | (with_reducible refine Kd.C_alloc ?_ _) | (with_reducible refine Kd.C_drewN ?_ _) | (with_reducible refine Kd.C_drew ?_)))
                        (case aB => exact (by repeat (first | (with_reducible first | exact HB.out | apply below_alloc | apply pw_below_drewN | apply below_drew1) | exact HB.out)))
                        (case aF => exact (fun k_ hk => Kd.fresh' (Kd.R_lt (by (with_reducible repeat (first | apply Kd.R_alloc | apply Kd.R_drewN | apply Kd.R_drew)); exact HO472.out)) k_ hk))
                        (case aO => exact (by (with_reducible repeat (first | apply Kd.R_alloc | apply Kd.R_drewN | apply Kd.R_drew)); exact Kd.R_mono HO_3.out (fun _ hk => hk.2)))
                        (case aS => exact (below_size (by repeat (first | (with_reducible first | exact HB.out | apply below_alloc | apply pw_below_drewN | apply below_drew1) | exact HB.out))))
                        (case aL => have := LMc20.out; omega)
                        intro v474 w24 ho hb hg hat
                        rw [← Ny473.out] at ho
                        have n0_ := Aside0.mk (Kd.R_after (ok := (fun _ => True)) (by (with_reducible repeat (first | apply Kd.R_alloc | apply Kd.R_drewN | apply Kd.R_drew)); exact HO472.out) hg hat)
                        have n1_ := Aside0.mk (hb)
                        have n2_ := Aside0.mk (ho)
                        clear HO472
                        clear HB
                        clear HO_3
                        have HO472 := n0_
                        have HB := n1_
                        have HO475 := n2_
                        clear n0_ n1_ n2_
                        clear ho hb hg hat
                        refine hK.out _ _ trivial (fun hHeld => ?_)
                        clear hK K
                        refine norm_ (a' := ?_) ?_ ?_
                        rotate_left
                        · show Act.put _ (some 26) _ = _
                          simp only [Act.put, List.setIfInBounds_toArray, List.set_cons_zero, List.set_cons_succ, i64_w, i32_w]
                          rfl
                        refine pure_ (i := 11) (N := some 3) (v := ?_) (a' := ?_) #[true, true, true, true, true, true, true, true, true, true, true, true] rfl rfl (any_of HT_.out (by kernel_rfl)) (fun _ _ _ h => h) (Or.inl ⟨by rfl, ?_⟩) ?_ ?_
                        rotate_left
                        · intro w'
                          go_simp
                          with_reducible rfl
                        rotate_left
                        · simp only [Act.put, List.setIfInBounds_toArray, List.set_cons_zero, List.set_cons_succ, i64_w, i32_w]
                          rfl
                        refine done_ (done_of HT_.out (by kernel_rfl)) ?_
                        try go_wp2
                        go_roundg k1
                        case measure => have := HK1.out; omega
                        case rel => exact ⟨(y473), (wrap64 (x5_1 + 1)), (by first | rfl | (simp; done) | (simp [*]; done) | (simp; (generalize ByteArray.toList _ = z_); cases z_ <;> rfl)), H', ⟨by have := HK1.out; omega⟩, ⟨by (with_reducible repeat (first | apply Kd.R_alloc | apply Kd.R_drewN | apply Kd.R_drew)); exact Kd.R_mono HO475.out (fun _ hk => trivial)⟩, ⟨by repeat (first | (with_reducible first | exact HB.out | apply below_alloc | apply pw_below_drewN | apply below_drew1) | exact HB.out)⟩⟩
                      · rw [if_neg c20] at H
                        exact absurd H (by simp)
                    · rw [if_neg c18] at H
                      exact absurd H (by simp)
                  · rw [if_neg c17] at H
                    exact absurd H (by simp)
                · rw [if_neg c14] at H
                  exact absurd H (by simp)
              · rw [if_neg c13] at H
                exact absurd H (by simp)
        · rw [if_neg c3] at H
          exact absurd H (by simp)
      · rw [if_neg c2] at H
        have c2b0 : decide (x5_1 < (a0.size : Int)) = false := decide_eq_false c2
        clear c2
        obtain rfl := Option.some.inj H
        have hcv26 := own_string (P := Tryz.prog) Tryz.underlying79 Tryz.underlying5 Tryz.underlying9 (Kd.own_of_R HO_3.out)
        go_wp2
        go_ret
        exact ⟨by first | rfl | (simp [errW_none, errW_some] <;> rfl) | (simp [*, errW_none, errW_some] <;> rfl) | (simp; (generalize ByteArray.toList _ = z_); cases z_ <;> rfl), by repeat (first | (with_reducible first | exact HB.out | apply below_alloc | apply pw_below_drewN | apply below_drew1) | exact HB.out)⟩
end Go.Proofs.YtmimipgmhgalaaaGreatDoor.PAll
end
section
namespace Go.Proofs.YtmimipgmhgalaaaGreatDoor.PAll
open Go.RowKit Go.Proofs.YtmimipgmhgalaaaGreatDoorW.PrintWords Go.Proofs.YtmimipgmhgalaaaGreatDoorW.PrintLast Go.Proofs.YtmimipgmhgalaaaGreatDoorW.PrintMore
attribute [local go_sem] max2_int min2_int max_two min_two max_three min_three max_four min_four
set_option linter.unusedVariables false
set_option linter.unusedSimpArgs false
def wicketref03_Print.l0 : Nat → List (S121) → ByteArray → Int → Option (ByteArray)
  | 0, _, _, _ => none
  | k + 1, x0, x3, x4 => if x4 < (x0.length : Int) then (if x4 > 0 then (if x3.size + 1 ≤ 9223372036854775807 then (if 0 ≤ x4 then ((wicketref03_Escape.f k ((rd_T121 x0 x4).f0)).bind fun t477 => (if (x3 ++ (⟨#[38]⟩ : ByteArray)).size + t477.size ≤ 9223372036854775807 then (if ((x3 ++ (⟨#[38]⟩ : ByteArray)) ++ t477).size + 1 ≤ 9223372036854775807 then ((wicketref03_Escape.f k ((rd_T121 x0 x4).f1)).bind fun t479 => (if (((x3 ++ (⟨#[38]⟩ : ByteArray)) ++ t477) ++ (⟨#[61]⟩ : ByteArray)).size + t479.size ≤ 9223372036854775807 then (wicketref03_Print.l0 k x0 ((((x3 ++ (⟨#[38]⟩ : ByteArray)) ++ t477) ++ (⟨#[61]⟩ : ByteArray)) ++ t479) (wrap64 (x4 + 1))) else (none))) else (none)) else (none))) else (none)) else (none)) else (if 0 ≤ x4 then ((wicketref03_Escape.f k ((rd_T121 x0 x4).f0)).bind fun t481 => (if x3.size + t481.size ≤ 9223372036854775807 then (if (x3 ++ t481).size + 1 ≤ 9223372036854775807 then ((wicketref03_Escape.f k ((rd_T121 x0 x4).f1)).bind fun t483 => (if ((x3 ++ t481) ++ (⟨#[61]⟩ : ByteArray)).size + t483.size ≤ 9223372036854775807 then (wicketref03_Print.l0 k x0 (((x3 ++ t481) ++ (⟨#[61]⟩ : ByteArray)) ++ t483) (wrap64 (x4 + 1))) else (none))) else (none)) else (none))) else (none))) else (some x3)
def wicketref03_Print.f (k : Nat) (l0 : List (S121)) : Option (ByteArray) := wicketref03_Print.l0 k l0 (⟨#[]⟩ : ByteArray) 0
def wicketref03_Print.T7 : Bool × List (List Nat × List Nat) := (true, [([], []), ([], []), ([], []), ([1, 2], [1, 2]), ([3], [3]), ([4], [4]), ([5], [5]), ([0, 6], [0, 6]), ([7], [7]), ([], []), ([], []), ([9, 10], [9, 10]), ([11], [11]), ([12], [12]), ([13, 6], [13]), ([8, 14], [8, 14]), ([15, 14, 0, 1, 2, 3, 4, 5, 6, 7, 8, 9, 10, 11, 12, 13, 14, 15], [0, 15])])
def wicketref03_Print.B7 : List Nat := [0, 0, 0, 6, 14, 30, 62, 127, 255, 0, 0, 1536, 3584, 7680, 15998, 32767, 65535]
theorem wicketref03_Print.tab7 : rtab .any (opsOf Tryz.f80 7) = wicketref03_Print.T7 := by kernel_rfl
theorem wicketref03_Print.bits7 : waitsOk wicketref03_Print.T7.2 wicketref03_Print.B7 = true := by kernel_rfl
set_option maxHeartbeats 8000000 in
set_option maxRecDepth 100000 in
theorem wicketref03_Print.calls (k : Nat) (A0 : Option Addr) (c0 : Nat) (l0 : List (S121)) (r : ByteArray) (w : World) (hr0 : Kd.C k121 w A0 l0.length l0) (hc0 : l0.length ≤ c0) (h : wicketref03_Print.f k l0 = some r) :
    Calls Tryz.prog 80 #[.slice A0 l0.length c0] w fun e w' => e = .returned (.string r) ∧ Below w.heap.size w w' := by
  have HR0 := Aside0.mk hr0
  have HC0 := Aside0.mk hc0
  clear hr0 hc0
  have HB := Aside0.mk (Below.refl w.heap.size w)
  have H : (wicketref03_Print.l0 k l0 (⟨#[]⟩ : ByteArray) 0) = some r := h
  clear h
  have H' := Aside0.mk H
  clear H
  go_enter Tryz.func80, Tryz.ntmps80
  go_wp2
  go_loopg [3, 4] k (fun kq v3 v4 w' => ∃ (x3_1 : ByteArray) (x4_1 : Int), v3 = .string x3_1 ∧ v4 = .int .i64 x4_1 ∧ Aside0 (wicketref03_Print.l0 kq l0 x3_1 x4_1 = some r) ∧ Aside0 (kq ≤ k) ∧ Aside0 (Below w.heap.size w w'))
  case atStart => exact ⟨((⟨#[]⟩ : ByteArray)), (0), (by first | rfl | (simp; done) | (simp [*]; done) | (simp; (generalize ByteArray.toList _ = z_); cases z_ <;> rfl)), (by first | rfl | (simp; done) | (simp [*]; done) | (simp; (generalize ByteArray.toList _ = z_); cases z_ <;> rfl)), H', ⟨Nat.le_refl _⟩, ⟨by repeat (first | (with_reducible first | exact HB.out | apply below_alloc | apply pw_below_drewN | apply below_drew1) | exact HB.out)⟩⟩
  case round =>
    clear H'
    obtain ⟨x3_1, x4_1, rfl, rfl, HA, HK1, HB⟩ := hrel
    cases gk with
    | zero => exact absurd HA.out (by simp [wicketref03_Print.l0])
    | succ k1 =>
      have H := HA.out
      clear HA
      simp only [wicketref03_Print.l0] at H
      by_cases c2 : x4_1 < (l0.length : Int)
      · rw [if_pos c2] at H
        have c2b0 : decide (x4_1 < (l0.length : Int)) = true := decide_eq_true c2
        clear c2
        by_cases c3 : x4_1 > 0
        · rw [if_pos c3] at H
          have c3b0 : decide (0 < x4_1) = true := decide_eq_true c3
          clear c3
          by_cases c4 : x3_1.size + 1 ≤ 9223372036854775807
          · rw [if_pos c4] at H
            have c4b0 := eq_true c4
            have c4b1 : decide (x3_1.size + 1 ≤ 9223372036854775807) = true := decide_eq_true c4
            try have c4b2 : (9223372036854775807 < x3_1.size + 1) = False := eq_false (Nat.not_lt.2 c4)
            by_cases c5 : 0 ≤ x4_1
            · rw [if_pos c5] at H
              have c5b0 : decide (0 ≤ x4_1) = true := decide_eq_true c5
              clear c5
              replace H := Option.bind_eq_some_iff.mp H
              obtain ⟨t477, A60, H⟩ := H
              replace H : (if (x3_1 ++ (⟨#[38]⟩ : ByteArray)).size + t477.size ≤ 9223372036854775807 then (if ((x3_1 ++ (⟨#[38]⟩ : ByteArray)) ++ t477).size + 1 ≤ 9223372036854775807 then ((wicketref03_Escape.f k1 ((rd_T121 l0 x4_1).f1)).bind fun t479 => (if (((x3_1 ++ (⟨#[38]⟩ : ByteArray)) ++ t477) ++ (⟨#[61]⟩ : ByteArray)).size + t479.size ≤ 9223372036854775807 then (wicketref03_Print.l0 k1 l0 ((((x3_1 ++ (⟨#[38]⟩ : ByteArray)) ++ t477) ++ (⟨#[61]⟩ : ByteArray)) ++ t479) (wrap64 (x4_1 + 1))) else (none))) else (none)) else (none)) = some r := H
              have A6 := Aside0.mk A60
              clear A60
              by_cases c7 : (x3_1 ++ (⟨#[38]⟩ : ByteArray)).size + t477.size ≤ 9223372036854775807
              · rw [if_pos c7] at H
                have c7b0 := eq_true c7
                have c7b1 : decide ((x3_1 ++ (⟨#[38]⟩ : ByteArray)).size + t477.size ≤ 9223372036854775807) = true := decide_eq_true c7
                try have c7b2 : (9223372036854775807 < (x3_1 ++ (⟨#[38]⟩ : ByteArray)).size + t477.size) = False := eq_false (Nat.not_lt.2 c7)
                try have c7b3 : (9223372036854775807 < x3_1.size + 1 + t477.size) = False := eq_false (Nat.not_lt.2 (by have h_ := c7; simp only [ByteArray.size_append'] at h_; exact h_))
                by_cases c8 : ((x3_1 ++ (⟨#[38]⟩ : ByteArray)) ++ t477).size + 1 ≤ 9223372036854775807
                · rw [if_pos c8] at H
                  have c8b0 := eq_true c8
                  have c8b1 : decide (((x3_1 ++ (⟨#[38]⟩ : ByteArray)) ++ t477).size + 1 ≤ 9223372036854775807) = true := decide_eq_true c8
                  try have c8b2 : (9223372036854775807 < ((x3_1 ++ (⟨#[38]⟩ : ByteArray)) ++ t477).size + 1) = False := eq_false (Nat.not_lt.2 c8)
                  try have c8b3 : (9223372036854775807 < x3_1.size + 1 + t477.size + 1) = False := eq_false (Nat.not_lt.2 (by have h_ := c8; simp only [ByteArray.size_append'] at h_; exact h_))
                  replace H := Option.bind_eq_some_iff.mp H
                  obtain ⟨t479, A90, H⟩ := H
                  replace H : (if (((x3_1 ++ (⟨#[38]⟩ : ByteArray)) ++ t477) ++ (⟨#[61]⟩ : ByteArray)).size + t479.size ≤ 9223372036854775807 then (wicketref03_Print.l0 k1 l0 ((((x3_1 ++ (⟨#[38]⟩ : ByteArray)) ++ t477) ++ (⟨#[61]⟩ : ByteArray)) ++ t479) (wrap64 (x4_1 + 1))) else (none)) = some r := H
                  have A9 := Aside0.mk A90
                  clear A90
                  by_cases c10 : (((x3_1 ++ (⟨#[38]⟩ : ByteArray)) ++ t477) ++ (⟨#[61]⟩ : ByteArray)).size + t479.size ≤ 9223372036854775807
                  · rw [if_pos c10] at H
                    have c10b0 := eq_true c10
                    have c10b1 : decide ((((x3_1 ++ (⟨#[38]⟩ : ByteArray)) ++ t477) ++ (⟨#[61]⟩ : ByteArray)).size + t479.size ≤ 9223372036854775807) = true := decide_eq_true c10
                    try have c10b2 : (9223372036854775807 < (((x3_1 ++ (⟨#[38]⟩ : ByteArray)) ++ t477) ++ (⟨#[61]⟩ : ByteArray)).size + t479.size) = False := eq_false (Nat.not_lt.2 c10)
                    try have c10b3 : (9223372036854775807 < x3_1.size + 1 + t477.size + 1 + t479.size) = False := eq_false (Nat.not_lt.2 (by have h_ := c10; simp only [ByteArray.size_append'] at h_; exact h_))
                    have H' := Aside0.mk H
                    clear H
                    try go_wp2
                    have n0_ := Aside0.mk (below_drew1 HB.out)
                    clear HB
                    have HB := n0_
                    clear n0_
                    have p476 : 0 ≤ (x4_1 : Int) := of_decide_eq_true (by first | (with_reducible assumption) | assumption)
                    have q476 : x4_1 < (l0.length : Int) := of_decide_eq_true (by first | (with_reducible assumption) | assumption)
                    obtain ⟨ad476, e476, hx476_0, hx476_1⟩ := at_T121 HR0.out x4_1 p476 q476
                    have hw476_1 := hx476_1
                    have hw476_0 := hx476_0
                    cases e476
                    replace hx476_0 := (HB.out.cell (World.block_lt_of_cell? w _ hx476_0)).trans hx476_0
                    replace hx476_1 := (HB.out.cell (World.block_lt_of_cell? w _ hx476_1)).trans hx476_1
                    replace p476 := eq_true p476
                    replace q476 := eq_true q476
                    have p478 : 0 ≤ (x4_1 : Int) := of_decide_eq_true (by first | (with_reducible assumption) | assumption)
                    have q478 : x4_1 < (l0.length : Int) := of_decide_eq_true (by first | (with_reducible assumption) | assumption)
                    obtain ⟨ad478, e478, hx478_0, hx478_1⟩ := at_T121 HR0.out x4_1 p478 q478
                    have hw478_1 := hx478_1
                    have hw478_0 := hx478_0
                    obtain rfl : ad476 = ad478 := (by injection e478)
                    replace hx478_0 := (HB.out.cell (World.block_lt_of_cell? w _ hx478_0)).trans hx478_0
                    replace hx478_1 := (HB.out.cell (World.block_lt_of_cell? w _ hx478_1)).trans hx478_1
                    replace p478 := eq_true p478
                    replace q478 := eq_true q478
                    refine start_ (n := 17) (S := fun w' => w'.cell? (ad476.add ((x4_1).toNat * 2)) = some (.string ((rd_T121 l0 x4_1).f0)) ∧ w'.cell? ⟨(ad476.add ((x4_1).toNat * 2)).block, (ad476.add ((x4_1).toNat * 2)).off + 1, none⟩ = some (.string ((rd_T121 l0 x4_1).f1)) ∧ w'.cell? (ad476.add ((x4_1).toNat * 2)) = some (.string ((rd_T121 l0 x4_1).f0)) ∧ w'.cell? ⟨(ad476.add ((x4_1).toNat * 2)).block, (ad476.add ((x4_1).toNat * 2)).off + 1, none⟩ = some (.string ((rd_T121 l0 x4_1).f1))) (ds := []) #[false, false, false, false, false, false, false, false, false, false, false, false, false, false, false, false, false] (by kernel_rfl) rfl rfl ⟨((HB.out.cell (World.block_lt_of_cell? w _ hw476_0)).trans hw476_0), ((HB.out.cell (World.block_lt_of_cell? w _ hw476_1)).trans hw476_1), ((HB.out.cell (World.block_lt_of_cell? w _ hw478_0)).trans hw478_0), ((HB.out.cell (World.block_lt_of_cell? w _ hw478_1)).trans hw478_1)⟩ (fun hHeld => ?_); refine with_tabW wicketref03_Print.tab7 wicketref03_Print.bits7 (fun HT_ HW_ => ?_)
                    generalize wr.drew = w11 at HB hx476_0 hx476_1 hx478_0 hx478_1 hHeld ⊢
                    refine pure_ (i := 0) (N := some 15) (v := ?_) (a' := ?_) #[true, false, false, false, false, false, false, false, false, false, false, false, false, false, false, false, false] rfl rfl (any_of HT_.out (by kernel_rfl)) (fun _ _ _ h => h) (Or.inl ⟨by rfl, ?_⟩) ?_ ?_
                    rotate_left
                    · intro w'
                      go_simp
                      with_reducible rfl
                    rotate_left
                    · simp only [Act.put, List.setIfInBounds_toArray, List.set_cons_zero, List.set_cons_succ, i64_w, i32_w]
                      rfl
                    refine pure_ (i := 1) (N := some 16) (v := ?_) (a' := ?_) #[true, true, false, false, false, false, false, false, false, false, false, false, false, false, false, false, false] rfl rfl (any_of HT_.out (by kernel_rfl)) (fun _ _ _ h => h) (Or.inl ⟨by rfl, ?_⟩) ?_ ?_
                    rotate_left
                    · intro w'
                      go_simp
                      with_reducible rfl
                    rotate_left
                    · simp only [Act.put, List.setIfInBounds_toArray, List.set_cons_zero, List.set_cons_succ, i64_w, i32_w]
                      rfl
                    refine pure_ (i := 2) (N := some 17) (v := ?_) (a' := ?_) #[true, true, true, false, false, false, false, false, false, false, false, false, false, false, false, false, false] rfl rfl (any_of HT_.out (by kernel_rfl)) (fun _ _ _ h => h) (Or.inl ⟨by rfl, ?_⟩) ?_ ?_
                    rotate_left
                    · intro w'
                      go_simp
                      with_reducible rfl
                    rotate_left
                    · simp only [Act.put, List.setIfInBounds_toArray, List.set_cons_zero, List.set_cons_succ, i64_w, i32_w]
                      rfl
                    refine pure_ (i := 3) (N := some 18) (v := ?_) (a' := ?_) #[true, true, true, true, false, false, false, false, false, false, false, false, false, false, false, false, false] rfl rfl (any_of HT_.out (by kernel_rfl)) (fun _ _ _ h => h) (Or.inl ⟨by rfl, ?_⟩) ?_ ?_
                    rotate_left
                    · intro w'
                      go_simp
                      with_reducible rfl
                    rotate_left
                    · simp only [Act.put, List.setIfInBounds_toArray, List.set_cons_zero, List.set_cons_succ, i64_w, i32_w]
                      rfl
                    refine pure_ (i := 4) (N := some 19) (v := ?_) (a' := ?_) #[true, true, true, true, true, false, false, false, false, false, false, false, false, false, false, false, false] rfl rfl (any_of HT_.out (by kernel_rfl)) (fun _ _ _ h => h) (Or.inl ⟨by rfl, ?_⟩) ?_ ?_
                    rotate_left
                    · intro w'
                      go_simp
                      with_reducible rfl
                    rotate_left
                    · simp only [Act.put, List.setIfInBounds_toArray, List.set_cons_zero, List.set_cons_succ, i64_w, i32_w]
                      rfl
                    refine pure_ (i := 9) (N := some 24) (v := ?_) (a' := ?_) #[true, true, true, true, true, false, false, false, false, true, false, false, false, false, false, false, false] rfl rfl (any_of HT_.out (by kernel_rfl)) (fun _ _ _ h => h) (Or.inl ⟨by rfl, ?_⟩) ?_ ?_
                    rotate_left
                    · intro w'
                      go_simp
                      with_reducible rfl
                    rotate_left
                    · simp only [Act.put, List.setIfInBounds_toArray, List.set_cons_zero, List.set_cons_succ, i64_w, i32_w]
                      rfl
                    refine pure_ (i := 10) (N := some 25) (v := ?_) (a' := ?_) #[true, true, true, true, true, false, false, false, false, true, true, false, false, false, false, false, false] rfl rfl (any_of HT_.out (by kernel_rfl)) (fun _ _ _ h => h) (Or.inl ⟨by rfl, ?_⟩) ?_ ?_
                    rotate_left
                    · intro w'
                      go_simp
                      with_reducible rfl
                    rotate_left
                    · simp only [Act.put, List.setIfInBounds_toArray, List.set_cons_zero, List.set_cons_succ, i64_w, i32_w]
                      rfl
                    refine pure_ (i := 11) (N := some 26) (v := ?_) (a' := ?_) #[true, true, true, true, true, false, false, false, false, true, true, true, false, false, false, false, false] rfl rfl (any_of HT_.out (by kernel_rfl)) (fun _ _ _ h => h) (Or.inl ⟨by rfl, ?_⟩) ?_ ?_
                    rotate_left
                    · intro w'
                      go_simp
                      with_reducible rfl
                    rotate_left
                    · simp only [Act.put, List.setIfInBounds_toArray, List.set_cons_zero, List.set_cons_succ, i64_w, i32_w]
                      rfl
                    refine pure_ (i := 12) (N := some 27) (v := ?_) (a' := ?_) #[true, true, true, true, true, false, false, false, false, true, true, true, true, false, false, false, false] rfl rfl (any_of HT_.out (by kernel_rfl)) (fun _ _ _ h => h) (Or.inl ⟨by rfl, ?_⟩) ?_ ?_
                    rotate_left
                    · intro w'
                      go_simp
                      with_reducible rfl
                    rotate_left
                    · simp only [Act.put, List.setIfInBounds_toArray, List.set_cons_zero, List.set_cons_succ, i64_w, i32_w]
                      rfl
                    refine take_ (i := 5) (N := some 20) (v := ?_) (a' := ?_) #[true, true, true, true, true, true, false, false, false, true, true, true, true, false, false, false, false] rfl rfl (take_ofW HT_.out HW_.out (by kernel_rfl)) (fun _ _ _ h => h) (Or.inl ⟨by rfl, ?_⟩) hHeld ?_ ?_
                    rotate_left
                    · rintro w' ⟨s0, s1, s2, s3⟩
                      go_simp
                      with_reducible rfl
                    rotate_left
                    · simp only [Act.put, List.setIfInBounds_toArray, List.set_cons_zero, List.set_cons_succ, i64_w, i32_w]
                      rfl
                    refine take_ (i := 13) (N := some 28) (v := ?_) (a' := ?_) #[true, true, true, true, true, true, false, false, false, true, true, true, true, true, false, false, false] rfl rfl (take_ofW HT_.out HW_.out (by kernel_rfl)) (fun _ _ _ h => h) (Or.inl ⟨by rfl, ?_⟩) hHeld ?_ ?_
                    rotate_left
                    · rintro w' ⟨s0, s1, s2, s3⟩
                      go_simp
                      with_reducible rfl
                    rotate_left
                    · simp only [Act.put, List.setIfInBounds_toArray, List.set_cons_zero, List.set_cons_succ, i64_w, i32_w]
                      rfl
                    refine one_ (i := 6) (N := some 21) #[true, true, true, true, true, true, true, false, false, true, true, true, true, true, false, false, false] rfl rfl (one_of HT_.out (by kernel_rfl)) (by decide) (fun K hK => ?_)
                    refine goes_ Tryz.func41 (by kernel_rfl) rfl #[.string ((rd_T121 l0 x4_1).f0)] (by rfl) rfl rfl (by (try simp only [List.map_toArray, List.map_cons, List.map_nil]); first | done | rfl | (simp only [List.length_drop, List.length_take]; rfl)) ?_
                    with_reducible refine (wicketref03_Escape.calls k1 ((rd_T121 l0 x4_1).f0) t477 _ A6.out).mono ?_
                    rintro e w12 ⟨rfl, hb⟩
                    refine ⟨_, rfl, ?_⟩
                    have n0_ := Aside0.mk (below_step (by repeat (first | (with_reducible first | exact HB.out | apply below_alloc | apply pw_below_drewN | apply below_drew1) | exact HB.out)) hb)
                    clear HB
                    have HB := n0_
                    clear n0_
                    (try clear hb)
                    (try clear hb2)
                    (try clear hk)
                    (try clear hi)
                    refine hK.out _ _ ⟨((HB.out.cell (World.block_lt_of_cell? w _ hw476_0)).trans hw476_0), ((HB.out.cell (World.block_lt_of_cell? w _ hw476_1)).trans hw476_1), ((HB.out.cell (World.block_lt_of_cell? w _ hw478_0)).trans hw478_0), ((HB.out.cell (World.block_lt_of_cell? w _ hw478_1)).trans hw478_1)⟩ (fun hHeld => ?_)
                    clear hK K
                    refine norm_ (a' := ?_) ?_ ?_
                    rotate_left
                    · show Act.put _ (some 21) _ = _
                      simp only [Act.put, List.setIfInBounds_toArray, List.set_cons_zero, List.set_cons_succ, i64_w, i32_w]
                      rfl
                    refine pure_ (i := 7) (N := some 22) (v := ?_) (a' := ?_) #[true, true, true, true, true, true, true, true, false, true, true, true, true, true, false, false, false] rfl rfl (any_of HT_.out (by kernel_rfl)) (fun _ _ _ h => h) (Or.inl ⟨by rfl, ?_⟩) ?_ ?_
                    rotate_left
                    · intro w'
                      go_simp
                      with_reducible rfl
                    rotate_left
                    · simp only [Act.put, List.setIfInBounds_toArray, List.set_cons_zero, List.set_cons_succ, i64_w, i32_w]
                      rfl
                    refine pure_ (i := 8) (N := some 23) (v := ?_) (a' := ?_) #[true, true, true, true, true, true, true, true, true, true, true, true, true, true, false, false, false] rfl rfl (any_of HT_.out (by kernel_rfl)) (fun _ _ _ h => h) (Or.inl ⟨by rfl, ?_⟩) ?_ ?_
                    rotate_left
                    · intro w'
                      go_simp
                      with_reducible rfl
                    rotate_left
                    · simp only [Act.put, List.setIfInBounds_toArray, List.set_cons_zero, List.set_cons_succ, i64_w, i32_w]
                      rfl
                    refine one_ (i := 14) (N := some 29) #[true, true, true, true, true, true, true, true, true, true, true, true, true, true, true, false, false] rfl rfl (one_of HT_.out (by kernel_rfl)) (by decide) (fun K hK => ?_)
                    refine goes_ Tryz.func41 (by kernel_rfl) rfl #[.string ((rd_T121 l0 x4_1).f1)] (by rfl) rfl rfl (by (try simp only [List.map_toArray, List.map_cons, List.map_nil]); first | done | rfl | (simp only [List.length_drop, List.length_take]; rfl)) ?_
                    with_reducible refine (wicketref03_Escape.calls k1 ((rd_T121 l0 x4_1).f1) t479 _ A9.out).mono ?_
                    rintro e w13 ⟨rfl, hb⟩
                    refine ⟨_, rfl, ?_⟩
                    have n0_ := Aside0.mk (below_step (by repeat (first | (with_reducible first | exact HB.out | apply below_alloc | apply pw_below_drewN | apply below_drew1) | exact HB.out)) hb)
                    clear HB
                    have HB := n0_
                    clear n0_
                    (try clear hb)
                    (try clear hb2)
                    (try clear hk)
                    (try clear hi)
                    refine hK.out _ _ ⟨((HB.out.cell (World.block_lt_of_cell? w _ hw476_0)).trans hw476_0), ((HB.out.cell (World.block_lt_of_cell? w _ hw476_1)).trans hw476_1), ((HB.out.cell (World.block_lt_of_cell? w _ hw478_0)).trans hw478_0), ((HB.out.cell (World.block_lt_of_cell? w _ hw478_1)).trans hw478_1)⟩ (fun hHeld => ?_)
                    clear hK K
                    refine norm_ (a' := ?_) ?_ ?_
                    rotate_left
                    · show Act.put _ (some 29) _ = _
                      simp only [Act.put, List.setIfInBounds_toArray, List.set_cons_zero, List.set_cons_succ, i64_w, i32_w]
                      rfl
                    refine pure_ (i := 15) (N := some 30) (v := ?_) (a' := ?_) #[true, true, true, true, true, true, true, true, true, true, true, true, true, true, true, true, false] rfl rfl (any_of HT_.out (by kernel_rfl)) (fun _ _ _ h => h) (Or.inl ⟨by rfl, ?_⟩) ?_ ?_
                    rotate_left
                    · intro w'
                      go_simp
                      with_reducible rfl
                    rotate_left
                    · simp only [Act.put, List.setIfInBounds_toArray, List.set_cons_zero, List.set_cons_succ, i64_w, i32_w]
                      rfl
                    refine pure_ (i := 16) (N := some 3) (v := ?_) (a' := ?_) #[true, true, true, true, true, true, true, true, true, true, true, true, true, true, true, true, true] rfl rfl (any_of HT_.out (by kernel_rfl)) (fun _ _ _ h => h) (Or.inl ⟨by rfl, ?_⟩) ?_ ?_
                    rotate_left
                    · intro w'
                      go_simp
                      with_reducible rfl
                    rotate_left
                    · simp only [Act.put, List.setIfInBounds_toArray, List.set_cons_zero, List.set_cons_succ, i64_w, i32_w]
                      rfl
                    refine done_ (done_of HT_.out (by kernel_rfl)) ?_
                    try go_wp2
                    go_roundg k1
                    case measure => have := HK1.out; omega
                    case rel => exact ⟨((((x3_1 ++ (⟨#[38]⟩ : ByteArray)) ++ t477) ++ (⟨#[61]⟩ : ByteArray)) ++ t479), (wrap64 (x4_1 + 1)), (by first | rfl | (simp; done) | (simp [*]; done) | (simp; (generalize ByteArray.toList _ = z_); cases z_ <;> rfl)), (by first | rfl | (simp; done) | (simp [*]; done) | (simp; (generalize ByteArray.toList _ = z_); cases z_ <;> rfl)), H', ⟨by have := HK1.out; omega⟩, ⟨by repeat (first | (with_reducible first | exact HB.out | apply below_alloc | apply pw_below_drewN | apply below_drew1) | exact HB.out)⟩⟩
                  · rw [if_neg c10] at H
                    exact absurd H (by simp)
                · rw [if_neg c8] at H
                  exact absurd H (by simp)
              · rw [if_neg c7] at H
                exact absurd H (by simp)
            · rw [if_neg c5] at H
              exact absurd H (by simp)
          · rw [if_neg c4] at H
            exact absurd H (by simp)
        · rw [if_neg c3] at H
          have c3b0 : decide (0 < x4_1) = false := decide_eq_false c3
          clear c3
          by_cases c14 : 0 ≤ x4_1
          · rw [if_pos c14] at H
            have c14b0 : decide (0 ≤ x4_1) = true := decide_eq_true c14
            clear c14
            replace H := Option.bind_eq_some_iff.mp H
            obtain ⟨t481, A150, H⟩ := H
            replace H : (if x3_1.size + t481.size ≤ 9223372036854775807 then (if (x3_1 ++ t481).size + 1 ≤ 9223372036854775807 then ((wicketref03_Escape.f k1 ((rd_T121 l0 x4_1).f1)).bind fun t483 => (if ((x3_1 ++ t481) ++ (⟨#[61]⟩ : ByteArray)).size + t483.size ≤ 9223372036854775807 then (wicketref03_Print.l0 k1 l0 (((x3_1 ++ t481) ++ (⟨#[61]⟩ : ByteArray)) ++ t483) (wrap64 (x4_1 + 1))) else (none))) else (none)) else (none)) = some r := H
            have A15 := Aside0.mk A150
            clear A150
            by_cases c16 : x3_1.size + t481.size ≤ 9223372036854775807
            · rw [if_pos c16] at H
              have c16b0 := eq_true c16
              have c16b1 : decide (x3_1.size + t481.size ≤ 9223372036854775807) = true := decide_eq_true c16
              try have c16b2 : (9223372036854775807 < x3_1.size + t481.size) = False := eq_false (Nat.not_lt.2 c16)
              by_cases c17 : (x3_1 ++ t481).size + 1 ≤ 9223372036854775807
              · rw [if_pos c17] at H
                have c17b0 := eq_true c17
                have c17b1 : decide ((x3_1 ++ t481).size + 1 ≤ 9223372036854775807) = true := decide_eq_true c17
                try have c17b2 : (9223372036854775807 < (x3_1 ++ t481).size + 1) = False := eq_false (Nat.not_lt.2 c17)
                try have c17b3 : (9223372036854775807 < x3_1.size + t481.size + 1) = False := eq_false (Nat.not_lt.2 (by have h_ := c17; simp only [ByteArray.size_append'] at h_; exact h_))
                replace H := Option.bind_eq_some_iff.mp H
                obtain ⟨t483, A180, H⟩ := H
                replace H : (if ((x3_1 ++ t481) ++ (⟨#[61]⟩ : ByteArray)).size + t483.size ≤ 9223372036854775807 then (wicketref03_Print.l0 k1 l0 (((x3_1 ++ t481) ++ (⟨#[61]⟩ : ByteArray)) ++ t483) (wrap64 (x4_1 + 1))) else (none)) = some r := H
                have A18 := Aside0.mk A180
                clear A180
                by_cases c19 : ((x3_1 ++ t481) ++ (⟨#[61]⟩ : ByteArray)).size + t483.size ≤ 9223372036854775807
                · rw [if_pos c19] at H
                  have c19b0 := eq_true c19
                  have c19b1 : decide (((x3_1 ++ t481) ++ (⟨#[61]⟩ : ByteArray)).size + t483.size ≤ 9223372036854775807) = true := decide_eq_true c19
                  try have c19b2 : (9223372036854775807 < ((x3_1 ++ t481) ++ (⟨#[61]⟩ : ByteArray)).size + t483.size) = False := eq_false (Nat.not_lt.2 c19)
                  try have c19b3 : (9223372036854775807 < x3_1.size + t481.size + 1 + t483.size) = False := eq_false (Nat.not_lt.2 (by have h_ := c19; simp only [ByteArray.size_append'] at h_; exact h_))
                  have H' := Aside0.mk H
                  clear H
                  try go_wp2
                  have n0_ := Aside0.mk (below_drew1 HB.out)
                  clear HB
                  have HB := n0_
                  clear n0_
                  have p480 : 0 ≤ (x4_1 : Int) := of_decide_eq_true (by first | (with_reducible assumption) | assumption)
                  have q480 : x4_1 < (l0.length : Int) := of_decide_eq_true (by first | (with_reducible assumption) | assumption)
                  obtain ⟨ad480, e480, hx480_0, hx480_1⟩ := at_T121 HR0.out x4_1 p480 q480
                  have hw480_1 := hx480_1
                  have hw480_0 := hx480_0
                  cases e480
                  replace hx480_0 := (HB.out.cell (World.block_lt_of_cell? w _ hx480_0)).trans hx480_0
                  replace hx480_1 := (HB.out.cell (World.block_lt_of_cell? w _ hx480_1)).trans hx480_1
                  replace p480 := eq_true p480
                  replace q480 := eq_true q480
                  have p482 : 0 ≤ (x4_1 : Int) := of_decide_eq_true (by first | (with_reducible assumption) | assumption)
                  have q482 : x4_1 < (l0.length : Int) := of_decide_eq_true (by first | (with_reducible assumption) | assumption)
                  obtain ⟨ad482, e482, hx482_0, hx482_1⟩ := at_T121 HR0.out x4_1 p482 q482
                  have hw482_1 := hx482_1
                  have hw482_0 := hx482_0
                  obtain rfl : ad480 = ad482 := (by injection e482)
                  replace hx482_0 := (HB.out.cell (World.block_lt_of_cell? w _ hx482_0)).trans hx482_0
                  replace hx482_1 := (HB.out.cell (World.block_lt_of_cell? w _ hx482_1)).trans hx482_1
                  replace p482 := eq_true p482
                  replace q482 := eq_true q482
                  refine start_ (n := 17) (S := fun w' => w'.cell? (ad480.add ((x4_1).toNat * 2)) = some (.string ((rd_T121 l0 x4_1).f0)) ∧ w'.cell? ⟨(ad480.add ((x4_1).toNat * 2)).block, (ad480.add ((x4_1).toNat * 2)).off + 1, none⟩ = some (.string ((rd_T121 l0 x4_1).f1)) ∧ w'.cell? (ad480.add ((x4_1).toNat * 2)) = some (.string ((rd_T121 l0 x4_1).f0)) ∧ w'.cell? ⟨(ad480.add ((x4_1).toNat * 2)).block, (ad480.add ((x4_1).toNat * 2)).off + 1, none⟩ = some (.string ((rd_T121 l0 x4_1).f1))) (ds := []) #[false, false, false, false, false, false, false, false, false, false, false, false, false, false, false, false, false] (by kernel_rfl) rfl rfl ⟨((HB.out.cell (World.block_lt_of_cell? w _ hw480_0)).trans hw480_0), ((HB.out.cell (World.block_lt_of_cell? w _ hw480_1)).trans hw480_1), ((HB.out.cell (World.block_lt_of_cell? w _ hw482_0)).trans hw482_0), ((HB.out.cell (World.block_lt_of_cell? w _ hw482_1)).trans hw482_1)⟩ (fun hHeld => ?_); refine with_tabW wicketref03_Print.tab7 wicketref03_Print.bits7 (fun HT_ HW_ => ?_)
                  generalize wr.drew = w20 at HB hx480_0 hx480_1 hx482_0 hx482_1 hHeld ⊢
                  refine pure_ (i := 0) (N := some 15) (v := ?_) (a' := ?_) #[true, false, false, false, false, false, false, false, false, false, false, false, false, false, false, false, false] rfl rfl (any_of HT_.out (by kernel_rfl)) (fun _ _ _ h => h) (Or.inl ⟨by rfl, ?_⟩) ?_ ?_
                  rotate_left
                  · intro w'
                    go_simp
                    with_reducible rfl
                  rotate_left
                  · simp only [Act.put, List.setIfInBounds_toArray, List.set_cons_zero, List.set_cons_succ, i64_w, i32_w]
                    rfl
                  refine pure_ (i := 1) (N := some 16) (v := ?_) (a' := ?_) #[true, true, false, false, false, false, false, false, false, false, false, false, false, false, false, false, false] rfl rfl (any_of HT_.out (by kernel_rfl)) (fun _ _ _ h => h) (Or.inl ⟨by rfl, ?_⟩) ?_ ?_
                  rotate_left
                  · intro w'
                    go_simp
                    with_reducible rfl
                  rotate_left
                  · simp only [Act.put, List.setIfInBounds_toArray, List.set_cons_zero, List.set_cons_succ, i64_w, i32_w]
                    rfl
                  refine pure_ (i := 2) (N := some 17) (v := ?_) (a' := ?_) #[true, true, true, false, false, false, false, false, false, false, false, false, false, false, false, false, false] rfl rfl (any_of HT_.out (by kernel_rfl)) (fun _ _ _ h => h) (Or.inl ⟨by rfl, ?_⟩) ?_ ?_
                  rotate_left
                  · intro w'
                    go_simp
                    with_reducible rfl
                  rotate_left
                  · simp only [Act.put, List.setIfInBounds_toArray, List.set_cons_zero, List.set_cons_succ, i64_w, i32_w]
                    rfl
                  refine pure_ (i := 3) (N := some 18) (v := ?_) (a' := ?_) #[true, true, true, true, false, false, false, false, false, false, false, false, false, false, false, false, false] rfl rfl (any_of HT_.out (by kernel_rfl)) (fun _ _ _ h => h) (Or.inl ⟨by rfl, ?_⟩) ?_ ?_
                  rotate_left
                  · intro w'
                    go_simp
                    with_reducible rfl
                  rotate_left
                  · simp only [Act.put, List.setIfInBounds_toArray, List.set_cons_zero, List.set_cons_succ, i64_w, i32_w]
                    rfl
                  refine pure_ (i := 4) (N := some 19) (v := ?_) (a' := ?_) #[true, true, true, true, true, false, false, false, false, false, false, false, false, false, false, false, false] rfl rfl (any_of HT_.out (by kernel_rfl)) (fun _ _ _ h => h) (Or.inl ⟨by rfl, ?_⟩) ?_ ?_
                  rotate_left
                  · intro w'
                    go_simp
                    with_reducible rfl
                  rotate_left
                  · simp only [Act.put, List.setIfInBounds_toArray, List.set_cons_zero, List.set_cons_succ, i64_w, i32_w]
                    rfl
                  refine pure_ (i := 9) (N := some 24) (v := ?_) (a' := ?_) #[true, true, true, true, true, false, false, false, false, true, false, false, false, false, false, false, false] rfl rfl (any_of HT_.out (by kernel_rfl)) (fun _ _ _ h => h) (Or.inl ⟨by rfl, ?_⟩) ?_ ?_
                  rotate_left
                  · intro w'
                    go_simp
                    with_reducible rfl
                  rotate_left
                  · simp only [Act.put, List.setIfInBounds_toArray, List.set_cons_zero, List.set_cons_succ, i64_w, i32_w]
                    rfl
                  refine pure_ (i := 10) (N := some 25) (v := ?_) (a' := ?_) #[true, true, true, true, true, false, false, false, false, true, true, false, false, false, false, false, false] rfl rfl (any_of HT_.out (by kernel_rfl)) (fun _ _ _ h => h) (Or.inl ⟨by rfl, ?_⟩) ?_ ?_
                  rotate_left
                  · intro w'
                    go_simp
                    with_reducible rfl
                  rotate_left
                  · simp only [Act.put, List.setIfInBounds_toArray, List.set_cons_zero, List.set_cons_succ, i64_w, i32_w]
                    rfl
                  refine pure_ (i := 11) (N := some 26) (v := ?_) (a' := ?_) #[true, true, true, true, true, false, false, false, false, true, true, true, false, false, false, false, false] rfl rfl (any_of HT_.out (by kernel_rfl)) (fun _ _ _ h => h) (Or.inl ⟨by rfl, ?_⟩) ?_ ?_
                  rotate_left
                  · intro w'
                    go_simp
                    with_reducible rfl
                  rotate_left
                  · simp only [Act.put, List.setIfInBounds_toArray, List.set_cons_zero, List.set_cons_succ, i64_w, i32_w]
                    rfl
                  refine pure_ (i := 12) (N := some 27) (v := ?_) (a' := ?_) #[true, true, true, true, true, false, false, false, false, true, true, true, true, false, false, false, false] rfl rfl (any_of HT_.out (by kernel_rfl)) (fun _ _ _ h => h) (Or.inl ⟨by rfl, ?_⟩) ?_ ?_
                  rotate_left
                  · intro w'
                    go_simp
                    with_reducible rfl
                  rotate_left
                  · simp only [Act.put, List.setIfInBounds_toArray, List.set_cons_zero, List.set_cons_succ, i64_w, i32_w]
                    rfl
                  refine take_ (i := 5) (N := some 20) (v := ?_) (a' := ?_) #[true, true, true, true, true, true, false, false, false, true, true, true, true, false, false, false, false] rfl rfl (take_ofW HT_.out HW_.out (by kernel_rfl)) (fun _ _ _ h => h) (Or.inl ⟨by rfl, ?_⟩) hHeld ?_ ?_
                  rotate_left
                  · rintro w' ⟨s0, s1, s2, s3⟩
                    go_simp
                    with_reducible rfl
                  rotate_left
                  · simp only [Act.put, List.setIfInBounds_toArray, List.set_cons_zero, List.set_cons_succ, i64_w, i32_w]
                    rfl
                  refine take_ (i := 13) (N := some 28) (v := ?_) (a' := ?_) #[true, true, true, true, true, true, false, false, false, true, true, true, true, true, false, false, false] rfl rfl (take_ofW HT_.out HW_.out (by kernel_rfl)) (fun _ _ _ h => h) (Or.inl ⟨by rfl, ?_⟩) hHeld ?_ ?_
                  rotate_left
                  · rintro w' ⟨s0, s1, s2, s3⟩
                    go_simp
                    with_reducible rfl
                  rotate_left
                  · simp only [Act.put, List.setIfInBounds_toArray, List.set_cons_zero, List.set_cons_succ, i64_w, i32_w]
                    rfl
                  refine one_ (i := 6) (N := some 21) #[true, true, true, true, true, true, true, false, false, true, true, true, true, true, false, false, false] rfl rfl (one_of HT_.out (by kernel_rfl)) (by decide) (fun K hK => ?_)
                  refine goes_ Tryz.func41 (by kernel_rfl) rfl #[.string ((rd_T121 l0 x4_1).f0)] (by rfl) rfl rfl (by (try simp only [List.map_toArray, List.map_cons, List.map_nil]); first | done | rfl | (simp only [List.length_drop, List.length_take]; rfl)) ?_
                  with_reducible refine (wicketref03_Escape.calls k1 ((rd_T121 l0 x4_1).f0) t481 _ A15.out).mono ?_
                  rintro e w21 ⟨rfl, hb⟩
                  refine ⟨_, rfl, ?_⟩
                  have n0_ := Aside0.mk (below_step (by repeat (first | (with_reducible first | exact HB.out | apply below_alloc | apply pw_below_drewN | apply below_drew1) | exact HB.out)) hb)
                  clear HB
                  have HB := n0_
                  clear n0_
                  (try clear hb)
                  (try clear hb2)
                  (try clear hk)
                  (try clear hi)
                  refine hK.out _ _ ⟨((HB.out.cell (World.block_lt_of_cell? w _ hw480_0)).trans hw480_0), ((HB.out.cell (World.block_lt_of_cell? w _ hw480_1)).trans hw480_1), ((HB.out.cell (World.block_lt_of_cell? w _ hw482_0)).trans hw482_0), ((HB.out.cell (World.block_lt_of_cell? w _ hw482_1)).trans hw482_1)⟩ (fun hHeld => ?_)
                  clear hK K
                  refine norm_ (a' := ?_) ?_ ?_
                  rotate_left
                  · show Act.put _ (some 21) _ = _
                    simp only [Act.put, List.setIfInBounds_toArray, List.set_cons_zero, List.set_cons_succ, i64_w, i32_w]
                    rfl
                  refine pure_ (i := 7) (N := some 22) (v := ?_) (a' := ?_) #[true, true, true, true, true, true, true, true, false, true, true, true, true, true, false, false, false] rfl rfl (any_of HT_.out (by kernel_rfl)) (fun _ _ _ h => h) (Or.inl ⟨by rfl, ?_⟩) ?_ ?_
                  rotate_left
                  · intro w'
                    go_simp
                    with_reducible rfl
                  rotate_left
                  · simp only [Act.put, List.setIfInBounds_toArray, List.set_cons_zero, List.set_cons_succ, i64_w, i32_w]
                    rfl
                  refine pure_ (i := 8) (N := some 23) (v := ?_) (a' := ?_) #[true, true, true, true, true, true, true, true, true, true, true, true, true, true, false, false, false] rfl rfl (any_of HT_.out (by kernel_rfl)) (fun _ _ _ h => h) (Or.inl ⟨by rfl, ?_⟩) ?_ ?_
                  rotate_left
                  · intro w'
                    go_simp
                    with_reducible rfl
                  rotate_left
                  · simp only [Act.put, List.setIfInBounds_toArray, List.set_cons_zero, List.set_cons_succ, i64_w, i32_w]
                    rfl
                  refine one_ (i := 14) (N := some 29) #[true, true, true, true, true, true, true, true, true, true, true, true, true, true, true, false, false] rfl rfl (one_of HT_.out (by kernel_rfl)) (by decide) (fun K hK => ?_)
                  refine goes_ Tryz.func41 (by kernel_rfl) rfl #[.string ((rd_T121 l0 x4_1).f1)] (by rfl) rfl rfl (by (try simp only [List.map_toArray, List.map_cons, List.map_nil]); first | done | rfl | (simp only [List.length_drop, List.length_take]; rfl)) ?_
                  with_reducible refine (wicketref03_Escape.calls k1 ((rd_T121 l0 x4_1).f1) t483 _ A18.out).mono ?_
                  rintro e w22 ⟨rfl, hb⟩
                  refine ⟨_, rfl, ?_⟩
                  have n0_ := Aside0.mk (below_step (by repeat (first | (with_reducible first | exact HB.out | apply below_alloc | apply pw_below_drewN | apply below_drew1) | exact HB.out)) hb)
                  clear HB
                  have HB := n0_
                  clear n0_
                  (try clear hb)
                  (try clear hb2)
                  (try clear hk)
                  (try clear hi)
                  refine hK.out _ _ ⟨((HB.out.cell (World.block_lt_of_cell? w _ hw480_0)).trans hw480_0), ((HB.out.cell (World.block_lt_of_cell? w _ hw480_1)).trans hw480_1), ((HB.out.cell (World.block_lt_of_cell? w _ hw482_0)).trans hw482_0), ((HB.out.cell (World.block_lt_of_cell? w _ hw482_1)).trans hw482_1)⟩ (fun hHeld => ?_)
                  clear hK K
                  refine norm_ (a' := ?_) ?_ ?_
                  rotate_left
                  · show Act.put _ (some 29) _ = _
                    simp only [Act.put, List.setIfInBounds_toArray, List.set_cons_zero, List.set_cons_succ, i64_w, i32_w]
                    rfl
                  refine pure_ (i := 15) (N := some 30) (v := ?_) (a' := ?_) #[true, true, true, true, true, true, true, true, true, true, true, true, true, true, true, true, false] rfl rfl (any_of HT_.out (by kernel_rfl)) (fun _ _ _ h => h) (Or.inl ⟨by rfl, ?_⟩) ?_ ?_
                  rotate_left
                  · intro w'
                    go_simp
                    with_reducible rfl
                  rotate_left
                  · simp only [Act.put, List.setIfInBounds_toArray, List.set_cons_zero, List.set_cons_succ, i64_w, i32_w]
                    rfl
                  refine pure_ (i := 16) (N := some 3) (v := ?_) (a' := ?_) #[true, true, true, true, true, true, true, true, true, true, true, true, true, true, true, true, true] rfl rfl (any_of HT_.out (by kernel_rfl)) (fun _ _ _ h => h) (Or.inl ⟨by rfl, ?_⟩) ?_ ?_
                  rotate_left
                  · intro w'
                    go_simp
                    with_reducible rfl
                  rotate_left
                  · simp only [Act.put, List.setIfInBounds_toArray, List.set_cons_zero, List.set_cons_succ, i64_w, i32_w]
                    rfl
                  refine done_ (done_of HT_.out (by kernel_rfl)) ?_
                  try go_wp2
                  go_roundg k1
                  case measure => have := HK1.out; omega
                  case rel => exact ⟨(((x3_1 ++ t481) ++ (⟨#[61]⟩ : ByteArray)) ++ t483), (wrap64 (x4_1 + 1)), (by first | rfl | (simp; done) | (simp [*]; done) | (simp; (generalize ByteArray.toList _ = z_); cases z_ <;> rfl)), (by first | rfl | (simp; done) | (simp [*]; done) | (simp; (generalize ByteArray.toList _ = z_); cases z_ <;> rfl)), H', ⟨by have := HK1.out; omega⟩, ⟨by repeat (first | (with_reducible first | exact HB.out | apply below_alloc | apply pw_below_drewN | apply below_drew1) | exact HB.out)⟩⟩
                · rw [if_neg c19] at H
                  exact absurd H (by simp)
              · rw [if_neg c17] at H
                exact absurd H (by simp)
            · rw [if_neg c16] at H
              exact absurd H (by simp)
          · rw [if_neg c14] at H
            exact absurd H (by simp)
      · rw [if_neg c2] at H
        have c2b0 : decide (x4_1 < (l0.length : Int)) = false := decide_eq_false c2
        clear c2
        obtain rfl := Option.some.inj H
        go_wp2
        go_ret
        exact ⟨by first | rfl | (simp [errW_none, errW_some] <;> rfl) | (simp [*, errW_none, errW_some] <;> rfl) | (simp; (generalize ByteArray.toList _ = z_); cases z_ <;> rfl), by repeat (first | (with_reducible first | exact HB.out | apply below_alloc | apply pw_below_drewN | apply below_drew1) | exact HB.out)⟩
end Go.Proofs.YtmimipgmhgalaaaGreatDoor.PAll
end
section
namespace Go.Proofs.YtmimipgmhgalaaaGreatDoor.PAll
open Go.RowKit Go.Proofs.YtmimipgmhgalaaaGreatDoor.Spec Go.Proofs.YtmimipgmhgalaaaGreatDoorW.PrintWords
def urlform_Escape.f (a0 : ByteArray) : Option ByteArray := if 3 * a0.size ≤ 140737488355328 then some ⟨(escL a0.data.toList).toArray⟩ else none
theorem esc_alnum (c : UInt8) (r : Bool) (h : alnumB c = r) (w : World) :
    Calls Tryz.prog 139 #[.int .u8 (c.toNat : Int)] w fun e w' => e = .returned (.bool r) ∧ w = w' := by
  rw [alnum_int] at h
  go_enter Tryz.func139, Tryz.ntmps139
  subst h
  by_cases h1 : 65 ≤ (c.toNat : Int) <;> by_cases h2 : (c.toNat : Int) ≤ 90 <;> by_cases h3 : 97 ≤ (c.toNat : Int) <;> by_cases h4 : (c.toNat : Int) ≤ 122 <;> by_cases h5 : 48 ≤ (c.toNat : Int) <;> by_cases h6 : (c.toNat : Int) ≤ 57
  all_goals first | omega | skip
  all_goals go_wp2
  all_goals go_ret
  all_goals exact ⟨by simp [h1, h2, h3, h4, h5, h6], rfl⟩
set_option maxHeartbeats 4000000 in
set_option maxRecDepth 100000 in
theorem urlform_Escape.calls (a0 : ByteArray) (r : ByteArray) (w : World) (h : urlform_Escape.f a0 = some r) :
    Calls Tryz.prog 112 #[.string a0] w fun e w' => e = .returned (.string r) ∧ Below w.heap.size w w' := by
  unfold urlform_Escape.f at h
  split at h
  · rename_i hs
    injection h with h
    subst h
    go_enter Tryz.func112, Tryz.ntmps112
    go_wp2
    go_loopw [8] (fun v8 wr => ∃ k : Nat, k ≤ a0.size ∧ v8 = .int .i64 k ∧ Lib.IsBuilder 88 5 w.heap.size w.heap.size (Lib.byteCells (escL (a0.data.toList.take k))) wr ∧ Below w.heap.size w wr) (fun v8 _ => a0.size - (intOf v8).toNat)
    case atStart => exact ⟨0, Nat.zero_le _, rfl, Lib.fresh_isBuilder _ 5 w, (Below.refl _ w).alloc (Nat.le_refl _) _⟩
    case round =>
      obtain ⟨k, hk, rfl, hI, hB⟩ := hrel
      have hsz := hB.size
      have hlen : (Lib.byteCells (escL (a0.data.toList.take k))).length ≤ 3 * k := by
        rw [Lib.byteCells_length]
        exact Nat.le_trans (escL_len _) (Nat.mul_le_mul_left _ (List.length_take_le _ _))
      by_cases hlt : k < a0.size
      · have hst := Lib.hid (escL_take a0 k hlt)
        go_wp2_with fail
        ·
          have ht : ((a0[k].toNat : Int) == 32) = true := by assumption
          refine (Bld.writeByte w.heap.size w.heap.size _ 43 _ hI (by omega) (by omega)).mono ?_
          rintro e w1 ⟨rfl, h1, hb1, _⟩
          go_wp2
          go_roundw
          case rel =>
            refine ⟨k + 1, by omega, by go_num, ?_, hB.trans hb1⟩
            rw [hst.out, Lib.byteCells_append, escB_space _ ht]
            exact h1
          case measure => simp [intOf]; omega
        iterate 4
          ·
            have h0 : ((a0[k].toNat : Int) == 32) = false := by assumption
            have hp : plainB a0[k] = true := by
              unfold plainB
              rw [punct_int]
              simp [*]
            refine (Bld.writeByte w.heap.size w.heap.size _ _ _ hI (by omega) (by omega)).mono ?_
            rintro e w1 ⟨rfl, h1, hb1, _⟩
            go_wp2
            go_roundw
            case rel =>
              refine ⟨k + 1, by omega, by go_num, ?_, hB.trans hb1⟩
              rw [hst.out, Lib.byteCells_append, escB_keep _ h0 hp]
              exact h1
            case measure => simp [intOf]; omega
        · have h0 : ((a0[k].toNat : Int) == 32) = false := by assumption
          have hpu : punctB a0[k] = false := by
            rw [punct_int]
            simp [*]
          have HPU := Lib.hid hpu
          clear hpu
          obtain ⟨b, hb⟩ : ∃ b, alnumB a0[k] = b := ⟨_, rfl⟩
          have HB := Lib.hid hb
          clear hb
          cases b
          · refine (esc_alnum _ false HB.out _).mono ?_
            rintro e w1 ⟨rfl, rfl⟩
            go_wp2_with fail
            refine (Bld.writeByte w.heap.size w.heap.size _ _ _ hI (by omega) (by omega)).mono ?_
            rintro e w1 ⟨rfl, h1, hb1, _⟩
            have hs1 := hb1.size
            have q0 : 0 ≤ (a0[k].toNat : Int) / 16 := by omega
            have q1 : (a0[k].toNat : Int) / 16 < 16 := by have := a0[k].toNat_lt; omega
            go_wp2_with fail
            refine (Bld.writeByte w.heap.size w.heap.size _ _ _ h1 (by simp; omega) (by omega)).mono ?_
            rintro e w2 ⟨rfl, h2, hb2, _⟩
            have hs2 := hb2.size
            have q2 : 0 ≤ (a0[k].toNat : Int) % 16 := by omega
            have q3 : (a0[k].toNat : Int) % 16 < 16 := by omega
            go_wp2_with fail
            refine (Bld.writeByte w.heap.size w.heap.size _ _ _ h2 (by simp; omega) (by omega)).mono ?_
            rintro e w3 ⟨rfl, h3, hb3, _⟩
            go_wp2
            go_roundw
            case rel =>
              refine ⟨k + 1, by omega, by go_num, ?_, ((hB.trans hb1).trans hb2).trans hb3⟩
              rw [hst.out, Lib.byteCells_append, escB_pct _ h0 (by unfold plainB; rw [HB.out, HPU.out]; rfl)]
              rw [hexD_at, hexD_at] at h3
              simpa [Lib.byteCells] using h3
            case measure => simp [intOf]; omega
          · refine (esc_alnum _ true HB.out _).mono ?_
            rintro e w1 ⟨rfl, rfl⟩
            go_wp2_with fail
            refine (Bld.writeByte w.heap.size w.heap.size _ _ _ hI (by omega) (by omega)).mono ?_
            rintro e w1 ⟨rfl, h1, hb1, _⟩
            go_wp2
            go_roundw
            case rel =>
              refine ⟨k + 1, by omega, by go_num, ?_, hB.trans hb1⟩
              rw [hst.out, Lib.byteCells_append, escB_keep _ h0 (by unfold plainB; rw [HB.out, Bool.or_true])]
              exact h1
            case measure => simp [intOf]; omega
      · have hge : decide (k < a0.size) = false := decide_eq_false hlt
        go_wp2_with fail
        refine (Tryz.Builder_String_any w.heap.size w.heap.size _ _ hI (by omega)).mono ?_
        rintro e w1 ⟨rfl, hb1⟩
        go_wp2
        go_ret
        refine ⟨?_, hB.trans hb1⟩
        rw [List.take_of_length_le (by simp; omega)]
        rfl
  · cases h
end Go.Proofs.YtmimipgmhgalaaaGreatDoor.PAll
end
section
namespace Go.Proofs.YtmimipgmhgalaaaGreatDoor.PAll
open Go.RowKit Go.Proofs.YtmimipgmhgalaaaGreatDoor.Spec Go.Proofs.YtmimipgmhgalaaaGreatDoorW.PrintWords
set_option linter.unusedVariables false
def pairB (p : S68) : List UInt8 := escL p.f0.data.toList ++ 61 :: escL p.f1.data.toList
def printL : List S68 → List UInt8
  | [] => []
  | p :: r => pairB p ++ r.flatMap fun q => 38 :: pairB q
def sizeL (l : List S68) : Nat := (l.map fun p => p.f0.size + p.f1.size + 1).sum
def urlform_Print.f (l0 : List S68) : Option ByteArray := if 3 * sizeL l0 ≤ 140737488355328 then some ⟨(printL l0).toArray⟩ else none
theorem pairB_len (p : S68) : (pairB p).length ≤ 3 * (p.f0.size + p.f1.size) + 1 := by
  have h0 := escL_len p.f0.data.toList
  have h1 := escL_len p.f1.data.toList
  have e0 : p.f0.data.toList.length = p.f0.size := by rw [Array.length_toList]; rfl
  have e1 : p.f1.data.toList.length = p.f1.size := by rw [Array.length_toList]; rfl
  simp only [pairB, List.length_append, List.length_cons]
  omega
theorem flat_len (l : List S68) : (l.flatMap fun q => 38 :: pairB q).length ≤ 3 * sizeL l := by
  induction l with
  | nil => simp [sizeL]
  | cons p r ih =>
    have := pairB_len p
    simp only [List.flatMap_cons, List.length_append, List.length_cons, sizeL, List.map_cons, List.sum_cons] at ih ⊢
    omega
theorem printL_len (l : List S68) : (printL l).length ≤ 3 * sizeL l := by
  cases l with
  | nil => simp [printL]
  | cons p r =>
    have := pairB_len p
    have h := flat_len r
    simp only [printL, List.length_append, sizeL, List.map_cons, List.sum_cons] at h ⊢
    omega
theorem printL_snoc (l : List S68) (p : S68) (h : l ≠ []) : printL (l ++ [p]) = printL l ++ 38 :: pairB p := by
  cases l with
  | nil => exact absurd rfl h
  | cons q r => simp [printL]
theorem sizeL_take (l : List S68) (k : Nat) (h : k < l.length) : sizeL (l.take k) + (l[k].f0.size + l[k].f1.size + 1) ≤ sizeL l := by
  induction l generalizing k with
  | nil => simp at h
  | cons q r ih =>
    cases k with
    | zero => simp [sizeL]
    | succ k =>
      have := ih k (by simpa using h)
      simp only [List.take_succ_cons, sizeL, List.map_cons, List.sum_cons, List.getElem_cons_succ] at this ⊢
      omega
structure PInv (w : World) (g : Nat) (p : S68) (bs : List Value) (W : World) : Prop where
  b : Lib.IsBuilder 88 5 w.heap.size w.heap.size bs W
  k : Below w.heap.size w W
  x : W.heap[g]? = some (.cells #[.string p.f0, .string p.f1] 68 (0, 0))
theorem isBuilder_below {T e B b : Nat} {bs : List Value} {W W' : World} (h : Lib.IsBuilder T e B b bs W) (hb : Below W.heap.size W W') : Lib.IsBuilder T e B b bs W' := by
  rcases h with ⟨h1, v, h2, h3, h4⟩ | ⟨h1, v, h2, h3, h4⟩
  · exact .inl ⟨h1, v, (hb.block b (Bld.lt_of h2)).trans h2, pw_own_below h3 hb, h4⟩
  · exact .inr ⟨h1, v, (hb.block b (Bld.lt_of h2)).trans h2, pw_own_below h3 hb, h4⟩
theorem PInv.step {w : World} {g : Nat} {p : S68} {bs : List Value} {W W' : World} (hb : Below W.heap.size W W') (h : PInv w g p bs W) : PInv w g p bs W' :=
  ⟨isBuilder_below h.b hb, h.k.trans (hb.mono h.k.size), (hb.block g (Bld.lt_of h.x)).trans h.x⟩
theorem PInv.drew {w : World} {g : Nat} {p : S68} {bs : List Value} {W : World} (h : PInv w g p bs W) : PInv w g p bs W.drew :=
  PInv.step ((Below.refl _ W).drew) h
theorem PInv.le {w : World} {g : Nat} {p : S68} {bs : List Value} {W : World} (h : PInv w g p bs W) : w.heap.size ≤ W.heap.size := h.k.size
theorem PInv.c0 {w : World} {g : Nat} {p : S68} {bs : List Value} {W : World} (h : PInv w g p bs W) : W.cell? ⟨g, 0, none⟩ = some (.string p.f0) := by rw [Lib.cell_of_heap h.x]; rfl
theorem PInv.c1 {w : World} {g : Nat} {p : S68} {bs : List Value} {W : World} (h : PInv w g p bs W) : W.cell? ⟨g, 1, none⟩ = some (.string p.f1) := by rw [Lib.cell_of_heap h.x]; rfl
theorem strCells_bytes (s : ByteArray) : Lib.strCells s = Lib.byteCells s.data.toList := by
  simp [Lib.strCells, Lib.byteCells]
theorem three (E0 E1 : ByteArray) (p : S68) (h0 : E0.data.toList = escL p.f0.data.toList) (h1 : E1.data.toList = escL p.f1.data.toList) : Lib.strCells (E0 ++ (⟨#[61]⟩ : ByteArray) ++ E1) = Lib.byteCells (pairB p) := by
  rw [strCells_bytes]
  congr 1
  simp [pairB, h0, h1]
theorem step_more (l0 : List S68) (k : Nat) (hlt : k < l0.length) (hk0 : 0 < k) (p : S68) (hp : l0[k] = p) (E0 E1 : ByteArray) (h0 : E0.data.toList = escL p.f0.data.toList) (h1 : E1.data.toList = escL p.f1.data.toList) :
    Lib.byteCells (printL (l0.take (k + 1))) = Lib.byteCells (printL (l0.take k)) ++ [Value.int .u8 38] ++ Lib.strCells (E0 ++ (⟨#[61]⟩ : ByteArray) ++ E1) := by
  rw [three E0 E1 p h0 h1, List.take_succ_eq_append_getElem hlt, hp, printL_snoc _ _ (by intro e; have := congrArg List.length e; rw [List.length_take, List.length_nil] at this; omega), Lib.byteCells_append, List.append_assoc]
  rfl
theorem step_first (l0 : List S68) (k : Nat) (hlt : k < l0.length) (hk0 : ¬ 0 < k) (p : S68) (hp : l0[k] = p) (E0 E1 : ByteArray) (h0 : E0.data.toList = escL p.f0.data.toList) (h1 : E1.data.toList = escL p.f1.data.toList) :
    Lib.byteCells (printL (l0.take (k + 1))) = Lib.byteCells (printL (l0.take k)) ++ Lib.strCells (E0 ++ (⟨#[61]⟩ : ByteArray) ++ E1) := by
  obtain rfl : k = 0 := by omega
  rw [three E0 E1 p h0 h1, List.take_succ_eq_append_getElem hlt, hp]
  simp [printL, Lib.byteCells]
theorem esc_some (s : ByteArray) (h : 3 * s.size ≤ 140737488355328) : ∃ r, urlform_Escape.f s = some r ∧ r.data.toList = escL s.data.toList ∧ r.size ≤ 3 * s.size := by
  refine ⟨⟨(escL s.data.toList).toArray⟩, by simp [urlform_Escape.f, h], by simp, ?_⟩
  have h1 := escL_len s.data.toList
  have e1 : s.data.toList.length = s.size := by rw [Array.length_toList]; rfl
  show (escL s.data.toList).toArray.size ≤ _
  simp only [List.size_toArray]
  omega
set_option maxHeartbeats 4000000 in
set_option maxRecDepth 100000 in
theorem urlform_Print.calls (A0 : Option Addr) (c0 : Nat) (l0 : List S68) (r : ByteArray) (w : World) (hr0 : Kd.C k68 w A0 l0.length l0) (hc0 : l0.length ≤ c0) (h : urlform_Print.f l0 = some r) :
    Calls Tryz.prog 77 #[.slice A0 l0.length c0] w fun e w' => e = .returned (.string r) ∧ Below w.heap.size w w' := by
  unfold urlform_Print.f at h
  split at h
  · rename_i hs
    injection h with h
    subst h
    have HR := Lib.hid hr0
    have hm := hr0.2.1
    clear hr0
    go_enter Tryz.func77, Tryz.ntmps77
    go_wp2
    go_loopw [8] (fun v8 wr => ∃ k : Nat, k ≤ l0.length ∧ v8 = .int .i64 k ∧ Lib.IsBuilder 88 5 w.heap.size w.heap.size (Lib.byteCells (printL (l0.take k))) wr ∧ Below w.heap.size w wr) (fun v8 _ => l0.length - (intOf v8).toNat)
    case atStart => exact ⟨0, Nat.zero_le _, rfl, Lib.fresh_isBuilder _ 5 w, (Below.refl _ w).alloc (Nat.le_refl _) _⟩
    case round =>
      obtain ⟨k, hk, rfl, hI, hB⟩ := hrel
      have hsz := hB.size
      by_cases hlt : k < l0.length
      · have hlen : (Lib.byteCells (printL (l0.take k))).length + 3 * (l0[k].f0.size + l0[k].f1.size + 1) ≤ 140737488355328 := by
          rw [Lib.byteCells_length]
          have h1 := printL_len (l0.take k)
          have h2 := sizeL_take l0 k hlt
          omega
        obtain ⟨ad, hA, hx0, hx1⟩ := at_T68 (Kd.C_below HR.out hB) (k : Int) (by omega) (by omega)
        subst hA
        have hp : rd_T68 l0 (k : Int) = l0[k] := by simp [rd_T68, hlt]
        rw [hp] at hx0 hx1
        simp only [Int.toNat_natCast] at hx0 hx1
        clear hp
        generalize hpk : l0[k] = p at *
        have HPK := Lib.hid hpk
        clear hpk
        obtain ⟨E0, he0, hE0, hz0⟩ := esc_some p.f0 (by omega)
        obtain ⟨E1, he1, hE1, hz1⟩ := esc_some p.f1 (by omega)
        have HE0 := Lib.hid hE0
        have HE1 := Lib.hid hE1
        have HE0' := Lib.hid he0
        have HE1' := Lib.hid he1
        clear hE0 hE1 he0 he1
        have HJ : PInv w wr.heap.size p (Lib.byteCells (printL (l0.take k))) (wr.alloc (.cells #[.string p.f0, .string p.f1] 68)) :=
          ⟨isBuilder_below hI ((Below.refl _ _).alloc (Nat.le_refl _) _), hB.alloc hsz _, by show (wr.heap.push _)[wr.heap.size]? = _; simp⟩
        have hlt2 : w.heap.size < wr.heap.size := by rcases hI with h | h <;> exact h.lt
        have hEE : (E0 ++ (⟨#[61]⟩ : ByteArray) ++ E1).size = E0.size + 1 + E1.size := by simp [ByteArray.size_append]; rfl
        by_cases hk0 : 0 < k
        · go_wp2_with fail
          refine (Bld.writeByte w.heap.size w.heap.size _ 38 _ HJ.b (by omega) (by simp; omega)).mono ?_
          rintro e w1 ⟨rfl, h1, hb1, hk1⟩
          have J1 : PInv w wr.heap.size p (Lib.byteCells (printL (l0.take k)) ++ [.int .u8 38]) w1 := ⟨h1, HJ.k.trans hb1, hk1 _ _ HJ.x (by intro e; injection e with e; omega) (by intro c fz e; injection e with _ e; cases e)⟩
          have HW : Hid ((Lib.byteCells (printL (l0.take k)) ++ [Value.int .u8 38]).length + (E0 ++ (⟨#[61]⟩ : ByteArray) ++ E1).size ≤ 140737488355328) := by
            show _ ≤ _
            rw [hEE, List.length_append]
            simp only [List.length_singleton]
            omega
          have J2 := J1.drew
          clear hEE
          have c0 := J2.c0
          have c1 := J2.c1
          go_wp2_with fail
          go_region_with (first
            | (go_at_call_of 112 (Value.string p.f0); refine (urlform_Escape.calls _ _ _ HE0'.out).mono ?_; rintro e w' ⟨rfl, hb⟩; have J3 := PInv.step hb (by assumption); have c0' := J3.c0; have c1' := J3.c1)
            | (go_at_call_of 112 (Value.string p.f1); refine (urlform_Escape.calls _ _ _ HE1'.out).mono ?_; rintro e w' ⟨rfl, hb⟩; have J4 := PInv.step hb (by assumption); have c0' := J4.c0; have c1' := J4.c1)
            | (go_at_call 45; refine (Bld.writeString w.heap.size w.heap.size _ _ _ (PInv.b (by assumption)) HW.out ?side2).mono ?_; (case side2 => exact PInv.le (p := p) (by assumption)); rintro e w' ⟨rfl, h2, hb2, _⟩))
          all_goals
            go_wp2
            go_roundw
            case rel =>
              refine ⟨k + 1, by omega, by go_num, ?_, (PInv.k (p := p) (by assumption)).trans hb2⟩
              rw [step_more l0 k hlt hk0 p HPK.out E0 E1 HE0.out HE1.out]
              exact h2
            case measure => simp [intOf]; omega
        · have HW : Hid ((Lib.byteCells (printL (l0.take k))).length + (E0 ++ (⟨#[61]⟩ : ByteArray) ++ E1).size ≤ 140737488355328) := by
            show _ ≤ _
            rw [hEE]
            omega
          have J2 := HJ.drew
          have c0 := J2.c0
          have c1 := J2.c1
          clear hEE
          go_wp2_with fail
          go_region_with (first
            | (go_at_call_of 112 (Value.string p.f0); refine (urlform_Escape.calls _ _ _ HE0'.out).mono ?_; rintro e w' ⟨rfl, hb⟩; have J3 := PInv.step hb (by assumption); have c0' := J3.c0; have c1' := J3.c1)
            | (go_at_call_of 112 (Value.string p.f1); refine (urlform_Escape.calls _ _ _ HE1'.out).mono ?_; rintro e w' ⟨rfl, hb⟩; have J4 := PInv.step hb (by assumption); have c0' := J4.c0; have c1' := J4.c1)
            | (go_at_call 45; refine (Bld.writeString w.heap.size w.heap.size _ _ _ (PInv.b (by assumption)) HW.out ?side2).mono ?_; (case side2 => exact PInv.le (p := p) (by assumption)); rintro e w' ⟨rfl, h2, hb2, _⟩))
          all_goals
            go_wp2
            go_roundw
            case rel =>
              refine ⟨k + 1, by omega, by go_num, ?_, (PInv.k (p := p) (by assumption)).trans hb2⟩
              rw [step_first l0 k hlt hk0 p HPK.out E0 E1 HE0.out HE1.out]
              exact h2
            case measure => simp [intOf]; omega
      · go_wp2_with fail
        refine (Tryz.Builder_String_any w.heap.size w.heap.size _ _ hI (by omega)).mono ?_
        rintro e w1 ⟨rfl, hb1⟩
        go_wp2
        go_ret
        refine ⟨?_, hB.trans hb1⟩
        rw [List.take_of_length_le (by omega)]
        rfl
  · cases h
end Go.Proofs.YtmimipgmhgalaaaGreatDoor.PAll
end
section
namespace Go.Proofs.YtmimipgmhgalaaaGreatDoor.Pure
open Go.RowKit Go.Proofs.YtmimipgmhgalaaaGreatDoorW.PrintWords Go.Proofs.YtmimipgmhgalaaaGreatDoor.Plain Go.Proofs.YtmimipgmhgalaaaGreatDoor.Spec
set_option linter.unusedSimpArgs false
set_option linter.unusedVariables false
def n8 (l : List UInt8) : List Int := l.map fun b => (b.toNat : Int)
theorem n8_len (l : List UInt8) : (n8 l).length = l.length := List.length_map ..
theorem n8_snoc (l : List UInt8) (c : UInt8) : n8 l ++ [(c.toNat : Int)] = n8 (l ++ [c]) := by simp [n8]
theorem str_n8 (l : List UInt8) : strOfNums (n8 l) = bs l := Lib.Lz.strOfNums_map l
theorem bt_get (s : ByteArray) (i : Nat) (h : i < s.size) : bt s (i : Int) = (s[i].toNat : Int) := by
  unfold bt
  rw [dif_pos (by simpa using h)]
  rfl
theorem u8_lit (c : UInt8) (n : Nat) (h : c.toNat = n) : c = UInt8.ofNat n := by rw [← h, UInt8.ofNat_toNat]
end Go.Proofs.YtmimipgmhgalaaaGreatDoor.Pure
end
section
namespace Go.Proofs.YtmimipgmhgalaaaGreatDoor.PAll
open Go.RowKit Go.Proofs.YtmimipgmhgalaaaGreatDoorW.PrintWords Go.Proofs.YtmimipgmhgalaaaGreatDoorW.PrintLast Go.Proofs.YtmimipgmhgalaaaGreatDoorW.PrintMore
attribute [local go_sem] max2_int min2_int max_two min_two max_three min_three max_four min_four
set_option linter.unusedVariables false
set_option linter.unusedSimpArgs false
def urlform_One.l0 : Nat → ByteArray → ByteArray → Int → List (S68) → Int → Int → Option (ByteArray × Bool × Int)
 | 0, _, _, _, _, _, _ => none
 | k + 1, x1, x7, x8, x11, x12, x13 => if x13 < x12 then (if 0 ≤ x13 then (if x13 < (x11.length : Int) then (if ((rd_T68 x11 x13).f0).toList = x1.toList then (urlform_One.l0 k x1 ((rd_T68 x11 x13).f1) (wrap64 (x8 + 1)) x11 x12 (wrap64 (x13 + 1))) else (urlform_One.l0 k x1 x7 x8 x11 x12 (wrap64 (x13 + 1)))) else (none)) else (none)) else (if x8 > 1 then (some ((⟨#[]⟩ : ByteArray), false, 34)) else (some (x7, (x7.toList != ([] : List UInt8)), 0)))
def urlform_One.f (k : Nat) (l0 : List (S68)) (a1 : ByteArray) : Option (ByteArray × Bool × Int) := urlform_One.l0 k a1 (⟨#[]⟩ : ByteArray) 0 l0 (l0.length : Int) 0
set_option maxHeartbeats 8000000 in
set_option maxRecDepth 100000 in
theorem urlform_One.calls (k : Nat) (A0 : Option Addr) (c0 : Nat) (l0 : List (S68)) (a1 : ByteArray) (r1 : ByteArray) (r2 : Bool) (r3 : Int) (w : World) (hr0 : Kd.C k68 w A0 l0.length l0) (hc0 : l0.length ≤ c0) (h : urlform_One.f k l0 a1 = some (r1, r2, r3)) :
 Calls Tryz.prog 69 #[.slice A0 l0.length c0, .string a1] w fun e w' => e = .returned (.tuple #[.string r1, .bool r2, .int .i64 r3]) ∧ Below w.heap.size w w' := by
 have hu68 := Tryz.underlying68
 have HR0 := Aside0.mk hr0
 have HC0 := Aside0.mk hc0
 clear hr0 hc0
 have HB := Aside0.mk (Below.refl w.heap.size w)
 have H : (urlform_One.l0 k a1 (⟨#[]⟩ : ByteArray) 0 l0 (l0.length : Int) 0) = some (r1, r2, r3) := h
 clear h
 have H' := Aside0.mk H
 clear H
 go_enter Tryz.func69, Tryz.ntmps69
 go_wp2
 go_loopg [7, 8, 13] k (fun kq v7 v8 v13 w' => ∃ (x7_1 : ByteArray) (x8_1 : Int) (x13_1 : Int), v7 = .string x7_1 ∧ v8 = .int .i64 x8_1 ∧ v13 = .int .i64 x13_1 ∧ Aside0 (urlform_One.l0 kq a1 x7_1 x8_1 l0 (l0.length : Int) x13_1 = some (r1, r2, r3)) ∧ Aside0 (kq ≤ k) ∧ Aside0 (Below w.heap.size w w'))
 case atStart => exact ⟨((⟨#[]⟩ : ByteArray)), (0), (0), rfl, rfl, rfl, H', ⟨Nat.le_refl _⟩, ⟨HB.out⟩⟩
 case round =>
  clear H'
  obtain ⟨x7_1, x8_1, x13_1, rfl, rfl, rfl, HA, HK1, HB⟩ := hrel
  cases gk with
  | zero => exact absurd HA.out (by simp [urlform_One.l0])
  | succ k1 =>
   have H := HA.out
   clear HA
   simp only [urlform_One.l0] at H
   by_cases c3 : x13_1 < (l0.length : Int)
   · rw [if_pos c3] at H
     have c3b0 : decide (x13_1 < (l0.length : Int)) = true := decide_eq_true c3
     clear c3
     by_cases c4 : 0 ≤ x13_1
     · rw [if_pos c4] at H
       have c4b0 : decide (0 ≤ x13_1) = true := decide_eq_true c4
       clear c4
       by_cases c5 : x13_1 < (l0.length : Int)
       · rw [if_pos c5] at H
         have c5b0 : decide (x13_1 < (l0.length : Int)) = true := decide_eq_true c5
         clear c5
         by_cases c6 : ((rd_T68 l0 x13_1).f0).toList = a1.toList
         · rw [if_pos c6] at H
           have c6b0 : (((rd_T68 l0 x13_1).f0).toList == a1.toList) = true := beq_iff_eq.mpr c6
           have c6b1 : (((rd_T68 l0 x13_1).f0).toList != a1.toList) = false := bne_eq_false_iff_eq.mpr c6
           clear c6
           have H' := Aside0.mk H
           clear H
           have p222 : 0 ≤ (x13_1 : Int) := of_decide_eq_true (by assumption)
           have q222 : x13_1 < (l0.length : Int) := of_decide_eq_true (by assumption)
           obtain ⟨ad222, e222, hx222_0, hx222_1⟩ := at_T68 HR0.out x13_1 p222 q222
           cases e222
           replace hx222_0 := (HB.out.cell (World.block_lt_of_cell? w _ hx222_0)).trans hx222_0
           replace hx222_1 := (HB.out.cell (World.block_lt_of_cell? w _ hx222_1)).trans hx222_1
           replace p222 := eq_true p222
           replace q222 := eq_true q222
           go_wp2_with (first | ((with_reducible refine gate_dst (N := 10) rfl ?_); refine box_event ?hg (N := 10) ?hd (cs := #[.string (⟨#[]⟩ : ByteArray), .string (⟨#[]⟩ : ByteArray)]) (t := 68) ?hr ?_; (case hd => rfl); (case hg => rfl); (case hr => (go_simp; done)); intro gb223 hg w7 hbox hb; have BK223 := Aside0.mk hbox; have GW223 := Aside0.mk ((by rw [hg]; exact (below_size HB.out) : w.heap.size ≤ gb223)); have GE223 := Aside0.mk ((by rw [hg]; exact (below_size HB.out) : w.heap.size ≤ gb223)); replace HB := Aside0.mk (below_step HB.out hb); clear hb hbox hg; obtain ⟨hcz8_0, hcz8_1, hfz8_0, hfz8_1⟩ := cz2_ BK223.out))
           go_roundg k1
           case measure => have := HK1.out; omega
           case rel => exact ⟨((rd_T68 l0 x13_1).f1), (wrap64 (x8_1 + 1)), (wrap64 (x13_1 + 1)), rfl, rfl, rfl, H', ⟨by have := HK1.out; omega⟩, ⟨by (repeat (with_reducible first | exact HB.out | refine below_set ?_ GE223.out))⟩⟩
         · rw [if_neg c6] at H
           have c6b0 : (((rd_T68 l0 x13_1).f0).toList == a1.toList) = false := beq_eq_false_iff_ne.mpr c6
           have c6b1 : (((rd_T68 l0 x13_1).f0).toList != a1.toList) = true := bne_iff_ne.mpr c6
           have H' := Aside0.mk H
           clear H
           have p222 : 0 ≤ (x13_1 : Int) := of_decide_eq_true (by assumption)
           have q222 : x13_1 < (l0.length : Int) := of_decide_eq_true (by assumption)
           obtain ⟨ad222, e222, hx222_0, hx222_1⟩ := at_T68 HR0.out x13_1 p222 q222
           cases e222
           replace hx222_0 := (HB.out.cell (World.block_lt_of_cell? w _ hx222_0)).trans hx222_0
           replace hx222_1 := (HB.out.cell (World.block_lt_of_cell? w _ hx222_1)).trans hx222_1
           replace p222 := eq_true p222
           replace q222 := eq_true q222
           go_wp2_with (first | ((with_reducible refine gate_dst (N := 10) rfl ?_); refine box_event ?hg (N := 10) ?hd (cs := #[.string (⟨#[]⟩ : ByteArray), .string (⟨#[]⟩ : ByteArray)]) (t := 68) ?hr ?_; (case hd => rfl); (case hg => rfl); (case hr => (go_simp; done)); intro gb223 hg w9 hbox hb; have BK223 := Aside0.mk hbox; have GW223 := Aside0.mk ((by rw [hg]; exact (below_size HB.out) : w.heap.size ≤ gb223)); have GE223 := Aside0.mk ((by rw [hg]; exact (below_size HB.out) : w.heap.size ≤ gb223)); replace HB := Aside0.mk (below_step HB.out hb); clear hb hbox hg; obtain ⟨hcz10_0, hcz10_1, hfz10_0, hfz10_1⟩ := cz2_ BK223.out))
           go_roundg k1
           case measure => have := HK1.out; omega
           case rel => exact ⟨(x7_1), (x8_1), (wrap64 (x13_1 + 1)), rfl, rfl, rfl, H', ⟨by have := HK1.out; omega⟩, ⟨by (repeat (with_reducible first | exact HB.out | refine below_set ?_ GE223.out))⟩⟩
       · rw [if_neg c5] at H
         exact absurd H (by simp)
     · rw [if_neg c4] at H
       exact absurd H (by simp)
   · rw [if_neg c3] at H
     have c3b0 : decide (x13_1 < (l0.length : Int)) = false := decide_eq_false c3
     clear c3
     by_cases c11 : x8_1 > 1
     · rw [if_pos c11] at H
       have c11b0 : decide (1 < x8_1) = true := decide_eq_true c11
       clear c11
       simp only [Option.some.injEq, Prod.mk.injEq] at H
       obtain ⟨rfl, rfl, rfl⟩ := H
       go_wp2
       go_ret3
       exact ⟨by (rfl), by (with_reducible exact HB.out)⟩
     · rw [if_neg c11] at H
       have c11b0 : decide (1 < x8_1) = false := decide_eq_false c11
       clear c11
       simp only [Option.some.injEq, Prod.mk.injEq] at H
       obtain ⟨rfl, rfl, rfl⟩ := H
       go_wp2
       go_ret3
       exact ⟨by (simp; (generalize ByteArray.toList _ = z_); cases z_ <;> rfl), by (with_reducible exact HB.out)⟩
end Go.Proofs.YtmimipgmhgalaaaGreatDoor.PAll
end
section
namespace Go.Proofs.YtmimipgmhgalaaaGreatDoor.PAll
open Go.RowKit Go.Proofs.YtmimipgmhgalaaaGreatDoorW.PrintWords Go.Proofs.YtmimipgmhgalaaaGreatDoorW.PrintLast Go.Proofs.YtmimipgmhgalaaaGreatDoorW.PrintMore
attribute [local go_sem] max2_int min2_int max_two min_two max_three min_three max_four min_four
set_option linter.unusedVariables false
set_option linter.unusedSimpArgs false
mutual
def wicketref03_Within.l0 : Nat → List ByteArray → List ByteArray → Int → Option (Bool)
 | 0, _, _, _ => none
 | k + 1, x0, x1, x5 => if x5 < (x0.length : Int) then (wicketref03_Within.l1 k x0 x1 x5 false 0) else (some true)
def wicketref03_Within.l1 : Nat → List ByteArray → List ByteArray → Int → Bool → Int → Option (Bool)
 | 0, _, _, _, _, _ => none
 | k + 1, x0, x1, x5, x6, x7 => if x7 < (x1.length : Int) then (if x6 = true then (wicketref03_Within.l1 k x0 x1 x5 true (wrap64 (x7 + 1))) else (if 0 ≤ x7 then (if 0 ≤ x5 then (if x5 < (x0.length : Int) then (wicketref03_Within.l1 k x0 x1 x5 ((rdOf ByteArray.empty x1 x7).toList == (rdOf ByteArray.empty x0 x5).toList) (wrap64 (x7 + 1))) else (none)) else (none)) else (none))) else (if x6 = true then (wicketref03_Within.l0 k x0 x1 (wrap64 (x5 + 1))) else (some false))
end
def wicketlaw11_num.f (a0 : Int) : Option (Int) := some a0
set_option maxHeartbeats 8000000 in
set_option maxRecDepth 100000 in
theorem wicketlaw11_num.calls (a0 : Int) (r : Int) (w : World) (h : wicketlaw11_num.f a0 = some r) :
 Calls Tryz.prog 19 #[.int .i64 a0] w fun e w' => e = .returned (.int .i64 r) ∧ Drawn0 w w' := by
 have H : (some a0) = some r := h
 clear h
 obtain rfl := Option.some.inj H
 go_enter Tryz.func19, Tryz.ntmps19
 go_wp2
 go_ret
 exact ⟨by (rfl), by repeat (exact Drawn0.refl _)⟩
end Go.Proofs.YtmimipgmhgalaaaGreatDoor.PAll
end
section
namespace Go.Proofs.YtmimipgmhgalaaaGreatDoor.Pure
open Go.RowKit Go.Proofs.YtmimipgmhgalaaaGreatDoorW.PrintWords Go.Proofs.YtmimipgmhgalaaaGreatDoor.Plain Go.Proofs.YtmimipgmhgalaaaGreatDoor.Spec Go.Proofs.YtmimipgmhgalaaaGreatDoor.PAll
set_option linter.unusedSimpArgs false
set_option linter.unusedVariables false
def to61 (p : S68) : S121 := ⟨p.f0, p.f1⟩
end Go.Proofs.YtmimipgmhgalaaaGreatDoor.Pure
end
section
namespace Go.Proofs.YtmimipgmhgalaaaGreatDoor.Pure
open Go.RowKit Go.Proofs.YtmimipgmhgalaaaGreatDoorW.PrintWords Go.Proofs.YtmimipgmhgalaaaGreatDoor.Plain Go.Proofs.YtmimipgmhgalaaaGreatDoor.Spec Go.Proofs.YtmimipgmhgalaaaGreatDoor.PAll
set_option linter.unusedSimpArgs false
set_option linter.unusedVariables false
def digitsB : ByteArray := ⟨#[48, 49, 50, 51, 52, 53, 54, 55, 56, 57, 65, 66, 67, 68, 69, 70]⟩
set_option maxRecDepth 100000 in
theorem plain_all : ∀ n : Fin 256, wicketref03_plain.f (n.val : Int) = some (plainB (UInt8.ofNat n.val)) := by decide +kernel
theorem plain_eq (c : UInt8) : wicketref03_plain.f (c.toNat : Int) = some (plainB c) := by
  have h := plain_all ⟨c.toNat, c.toNat_lt⟩
  rw [UInt8.ofNat_toNat] at h
  exact h
set_option maxRecDepth 100000 in
theorem digs_all : ∀ n : Fin 256, (Int.tdiv (n.val : Int) 16 % 256 < 16 ∧ 0 ≤ Int.tdiv (n.val : Int) 16 % 256 ∧ 0 ≤ Int.tmod (n.val : Int) 16 ∧ Int.tmod (n.val : Int) 16 < 16) ∧ bt digitsB (Int.tdiv (n.val : Int) 16 % 256) = ((hexD (n.val / 16)).toNat : Int) ∧ bt digitsB (Int.tmod (n.val : Int) 16) = ((hexD (n.val % 16)).toNat : Int) := by decide +kernel
theorem refesc_loop (s : ByteArray) (hs : s.size ≤ 1048576) : ∀ (m i : Nat), i + m = s.size →
    Ev (fun k => wicketref03_Escape.l0 k s (n8 (escL (s.data.toList.take i))) digitsB (i : Int)) (bs (escL s.data.toList)) := by
  intro m
  induction m with
  | zero =>
    intro i hi
    refine Ev.step (f := fun _ => some (bs (escL s.data.toList))) (fun k => ?_) (Ev.now _)
    simp only [wicketref03_Escape.l0]
    rw [if_neg (by omega), str_n8, List.take_of_length_le (by rw [data_len]; omega)]
  | succ m ih =>
    intro i hi
    have hlt : i < s.size := by omega
    have hbt := bt_get s i hlt
    have hpl := plain_eq s[i]
    have hdg := digs_all ⟨s[i].toNat, s[i].toNat_lt⟩
    have hel : (n8 (escL (s.data.toList.take i))).length ≤ 3 * 1048576 := by
      rw [n8_len]
      have h1 := escL_len (s.data.toList.take i)
      have h2 := List.length_take_le i s.data.toList
      omega
    have key := ih (i + 1) (by omega)
    rw [escL_take s i hlt] at key
    have hds : digitsB.size = 16 := rfl
    generalize s[i] = c at *
    refine Ev.step (fun k => ?_) key
    simp only [wicketref03_Escape.l0]
    rw [if_pos (by omega), if_pos (by omega), hbt, hpl, Option.bind_some, w64 (by omega) (by omega)]
    unfold escB
    by_cases h32 : c = 32
    · have hp : plainB c = false := by rw [h32]; decide
      have h32' : (c.toNat : Int) = 32 := by rw [h32]; rfl
      rw [hp, if_neg (by simp), if_pos h32', if_pos (by omega), if_pos h32, ← n8_snoc]
      rfl
    · have h32' : ¬ (c.toNat : Int) = 32 := fun e => h32 (u8_lit c 32 (by omega))
      rw [if_neg h32]
      cases hp : plainB c with
      | true =>
        rw [if_pos rfl, if_pos (by omega), if_pos rfl, ← n8_snoc]
        rfl
      | false =>
        obtain ⟨⟨g1, g2, g3, g4⟩, g5, g6⟩ := hdg
        simp only at g1 g2 g3 g4 g5 g6
        rw [if_neg (by simp), if_neg h32', if_pos (by omega), if_pos (by omega), if_pos (by omega), if_pos (by omega), Option.bind_some, if_pos (by simp; omega), if_neg (by simp), g5, g6]
        simp only [n8, List.map_append, List.map_cons, List.map_nil]
        rfl
theorem sum_len {α : Type} (g : α → Nat) (hg : ∀ x, 1 ≤ g x) : ∀ l : List α, l.length ≤ (l.map g).sum
  | [] => Nat.zero_le _
  | x :: l => by
    have := sum_len g hg l
    have := hg x
    simp only [List.length_cons, List.map_cons, List.sum_cons]
    omega
theorem refesc_ev (s : ByteArray) (hs : s.size ≤ 1048576) : Ev (fun k => wicketref03_Escape.f k s) (bs (escL s.data.toList)) := by
  unfold wicketref03_Escape.f
  exact refesc_loop s hs s.size 0 (by omega)
theorem bs_append (a b : List UInt8) : bs a ++ bs b = bs (a ++ b) := by
  rw [← bs_of (bs a ++ bs b)]
  congr 1
  all_goals simp [bs]
theorem pair_len (p : S68) : (escL p.f0.data.toList).length ≤ 3 * p.f0.size ∧ (escL p.f1.data.toList).length ≤ 3 * p.f1.size := by
  have h0 := escL_len p.f0.data.toList
  have h1 := escL_len p.f1.data.toList
  rw [data_len] at h0 h1
  exact ⟨h0, h1⟩
theorem refprint_loop (l : List S68) (hl : sizeL l ≤ 1048576) : ∀ (m i : Nat), i + m = l.length → Ev (fun k => wicketref03_Print.l0 k (l.map to61) (bs (printL (l.take i))) (i : Int)) (bs (printL l)) := by
  have hal : (l.map to61).length = l.length := List.length_map ..
  have hln : l.length ≤ sizeL l := by
    have := sum_len (fun p : S68 => p.f0.size + p.f1.size + 1) (fun x => by omega) l
    exact this
  intro m
  induction m with
  | zero =>
    intro i hi
    refine Ev.step (f := fun _ => some (bs (printL l))) (fun k => ?_) (Ev.now _)
    simp only [wicketref03_Print.l0]
    rw [if_neg (by omega), List.take_of_length_le (by omega)]
  | succ m ih =>
    intro i hi
    have hlt : i < l.length := by omega
    have hst := sizeL_take l i hlt
    have hpl := printL_len (l.take i)
    have hrd : rd_T121 (l.map to61) (i : Int) = to61 l[i] := by simp [rd_T121, hlt]
    have key := ih (i + 1) (by omega)
    rw [List.take_succ_eq_append_getElem hlt] at key
    have he := pair_len l[i]
    generalize l[i] = p at *
    have e0 : Ev (fun k => wicketref03_Escape.f k (to61 p).f0) (bs (escL p.f0.data.toList)) := refesc_ev p.f0 (by omega)
    have e1 : Ev (fun k => wicketref03_Escape.f k (to61 p).f1) (bs (escL p.f1.data.toList)) := refesc_ev p.f1 (by omega)
    have z0 : (bs (escL p.f0.data.toList)).size ≤ 3 * p.f0.size := by rw [bs_size]; exact he.1
    have z1 : (bs (escL p.f1.data.toList)).size ≤ 3 * p.f1.size := by rw [bs_size]; exact he.2
    have zt : (bs (printL (l.take i))).size ≤ 3 * sizeL (l.take i) := by rw [bs_size]; exact hpl
    have s38 : (⟨#[38]⟩ : ByteArray) = bs [38] := rfl
    have s61 : (⟨#[61]⟩ : ByteArray) = bs [61] := rfl
    by_cases h0 : 0 < i
    · have hp : printL (l.take i ++ [p]) = printL (l.take i) ++ 38 :: pairB p := printL_snoc _ _ (fun e => by have := congrArg List.length e; rw [List.length_take, List.length_nil] at this; omega)
      rw [hp] at key
      refine Ev.step (f := fun k => (wicketref03_Escape.f k (to61 p).f0).bind fun t115 => (if ((bs (printL (l.take i))) ++ (⟨#[38]⟩ : ByteArray)).size + t115.size ≤ 9223372036854775807 then (if (((bs (printL (l.take i))) ++ (⟨#[38]⟩ : ByteArray)) ++ t115).size + 1 ≤ 9223372036854775807 then ((wicketref03_Escape.f k (to61 p).f1).bind fun t117 => (if ((((bs (printL (l.take i))) ++ (⟨#[38]⟩ : ByteArray)) ++ t115) ++ (⟨#[61]⟩ : ByteArray)).size + t117.size ≤ 9223372036854775807 then (wicketref03_Print.l0 k (l.map to61) (((((bs (printL (l.take i))) ++ (⟨#[38]⟩ : ByteArray)) ++ t115) ++ (⟨#[61]⟩ : ByteArray)) ++ t117) ((i + 1 : Nat) : Int)) else (none))) else (none)) else (none))) (fun k => ?_) ?_
      · simp only [wicketref03_Print.l0]
        rw [if_pos (by omega), if_pos (by omega), if_pos (by omega), if_pos (by omega), hrd, w64 (by omega) (by omega)]
        rfl
      · have a1 : ((bs (printL (l.take i))) ++ (⟨#[38]⟩ : ByteArray)).size = (bs (printL (l.take i))).size + 1 := by rw [ByteArray.size_append]; rfl
        have a2 : (((bs (printL (l.take i))) ++ (⟨#[38]⟩ : ByteArray)) ++ bs (escL p.f0.data.toList)).size = (bs (printL (l.take i))).size + 1 + (bs (escL p.f0.data.toList)).size := by rw [ByteArray.size_append, a1]
        have a3 : ((((bs (printL (l.take i))) ++ (⟨#[38]⟩ : ByteArray)) ++ bs (escL p.f0.data.toList)) ++ (⟨#[61]⟩ : ByteArray)).size = (bs (printL (l.take i))).size + 1 + (bs (escL p.f0.data.toList)).size + 1 := by rw [ByteArray.size_append, a2]; rfl
        refine Ev.bind e0 (Ev.pos (by rw [a1]; omega) (Ev.pos (by rw [a2]; omega) (Ev.bind e1 (Ev.pos (by rw [a3]; omega) ?_))))
        rw [s38, s61, bs_append, bs_append, bs_append, bs_append]
        have e : printL (l.take i) ++ [38] ++ escL p.f0.data.toList ++ [61] ++ escL p.f1.data.toList = printL (l.take i) ++ 38 :: pairB p := by simp [pairB]
        rw [e]
        exact key
    · obtain rfl : i = 0 := by omega
      have hp : printL (l.take 0 ++ [p]) = pairB p := by simp [printL]
      rw [hp] at key
      refine Ev.step (f := fun k => (wicketref03_Escape.f k (to61 p).f0).bind fun t119 => (if (bs (printL (l.take 0))).size + t119.size ≤ 9223372036854775807 then (if ((bs (printL (l.take 0))) ++ t119).size + 1 ≤ 9223372036854775807 then ((wicketref03_Escape.f k (to61 p).f1).bind fun t121 => (if (((bs (printL (l.take 0))) ++ t119) ++ (⟨#[61]⟩ : ByteArray)).size + t121.size ≤ 9223372036854775807 then (wicketref03_Print.l0 k (l.map to61) ((((bs (printL (l.take 0))) ++ t119) ++ (⟨#[61]⟩ : ByteArray)) ++ t121) ((0 + 1 : Nat) : Int)) else (none))) else (none)) else (none))) (fun k => ?_) ?_
      · simp only [wicketref03_Print.l0]
        rw [if_pos (by omega), if_neg (by omega), if_pos (by omega), hrd, w64 (by omega) (by omega)]
        rfl
      · have a2 : ((bs (printL (l.take 0))) ++ bs (escL p.f0.data.toList)).size = (bs (printL (l.take 0))).size + (bs (escL p.f0.data.toList)).size := by rw [ByteArray.size_append]
        have a3 : (((bs (printL (l.take 0))) ++ bs (escL p.f0.data.toList)) ++ (⟨#[61]⟩ : ByteArray)).size = (bs (printL (l.take 0))).size + (bs (escL p.f0.data.toList)).size + 1 := by rw [ByteArray.size_append, a2]; rfl
        refine Ev.bind e0 (Ev.pos (by omega) (Ev.pos (by rw [a2]; omega) (Ev.bind e1 (Ev.pos (by rw [a3]; omega) ?_))))
        rw [s61, bs_append, bs_append, bs_append]
        have e : printL (l.take 0) ++ escL p.f0.data.toList ++ [61] ++ escL p.f1.data.toList = pairB p := by simp [pairB, printL]
        rw [e]
        exact key
end Go.Proofs.YtmimipgmhgalaaaGreatDoor.Pure
end
section
namespace Go.Proofs.YtmimipgmhgalaaaGreatDoor.PAll
open Go.RowKit Go.Proofs.YtmimipgmhgalaaaGreatDoorW.PrintWords
set_option linter.unusedVariables false
set_option maxHeartbeats 1000000 in
theorem empty_one (a b : ByteArray) (w : World) :
    Calls Tryz.prog 79 (#[.agg #[.string a, .string b]] ++ #[]) w fun e w' => e = .returned (.bool (b.toList == [])) ∧ Below w.heap.size w w' := by
  have hB := Below.refl w.heap.size w
  go_enter Tryz.func79, Tryz.ntmps79
  go_wp2
  go_ret
  have e2 : (b.toList == []) = b.toList.isEmpty := by cases b.toList <;> rfl
  exact ⟨by rw [e2]; rfl, hB.alloc (Nat.le_refl _) _⟩
def placeE : List S68 → Nat → Int
  | [], _ => -1
  | q :: r, i => if (q.f1.toList == []) = true then (i : Int) else placeE r (i + 1)
theorem placeE_cons (q : S68) (r : List S68) (i : Nat) : placeE (q :: r) i = if (q.f1.toList == []) = true then (i : Int) else placeE r (i + 1) := rfl
set_option maxHeartbeats 4000000 in
set_option maxRecDepth 100000 in
theorem index_empty (A0 : Option Addr) (c0 : Nat) (l0 : List S68) (w : World) (hr0 : Kd.C k68 w A0 l0.length l0) :
    Calls Tryz.prog 113 #[.slice A0 l0.length c0, .func (.func 79) #[] #[]] w fun e w' => e = .returned (.int .i64 (placeE l0 0)) ∧ Below w.heap.size w w' := by
  have e85 : ∀ args w, (callFunc 79 args).run Tryz.prog w = .ok (.enter 79 args) w := enters_of Tryz.func79 (by kernel_rfl) rfl
  have HR := Lib.hid hr0
  have hm := hr0.2.1
  clear hr0
  obtain ⟨G, hG0⟩ : ∃ G, placeE l0 0 = G := ⟨_, rfl⟩
  rw [hG0]
  go_enter Tryz.func113, Tryz.ntmps113
  go_wp2
  go_loopw [8] (fun v8 wr => ∃ j : Nat, j ≤ l0.length ∧ v8 = .int .i64 (j : Int) ∧ Below w.heap.size w wr ∧ placeE (l0.drop j) j = G) (fun v8 _ => l0.length - (intOf v8).toNat)
  case atStart => exact ⟨0, Nat.zero_le _, rfl, Below.refl _ _, hG0⟩
  case round =>
    obtain ⟨j, hj, rfl, hB, hG⟩ := hrel
    by_cases hlt : j < l0.length
    · obtain ⟨ad, hA, hx0, hx1⟩ := at_T68 (Kd.C_below HR.out hB) (j : Int) (by omega) (by omega)
      subst hA
      have hp : rd_T68 l0 (j : Int) = l0[j] := by simp [rd_T68, hlt]
      rw [hp] at hx0 hx1
      rw [List.drop_eq_getElem_cons hlt] at hG
      simp only [Int.toNat_natCast] at hx0 hx1
      clear hp
      generalize hpk : l0[j] = p at *
      have hcall := empty_one p.f0 p.f1 wr
      rw [placeE_cons] at hG
      obtain ⟨r, hr⟩ : ∃ r, (p.f1.toList == []) = r := ⟨_, rfl⟩
      rw [hr] at hG hcall
      cases r with
      | true =>
        rw [if_pos rfl] at hG
        have HG := Lib.hid hG
        clear hG
        go_wp2_with (go_at_fn 79; refine hcall.mono ?_; rintro e w1 ⟨rfl, hb1⟩)
        go_ret
        exact ⟨by rw [← HG.out]; rfl, hB.trans (hb1.mono hB.size)⟩
      | false =>
        rw [if_neg (by simp)] at hG
        have HG := Lib.hid hG
        clear hG
        go_wp2_with (go_at_fn 79; refine hcall.mono ?_; rintro e w1 ⟨rfl, hb1⟩)
        exact ⟨⟨j + 1, by omega, rfl, hB.trans (hb1.mono hB.size), HG.out⟩, by simp [intOf]; omega⟩
    · have hge : decide (j < l0.length) = false := decide_eq_false hlt
      rw [List.drop_eq_nil_of_le (by omega)] at hG
      have HG := Lib.hid hG
      clear hG
      go_wp2
      go_ret
      exact ⟨by rw [← HG.out]; rfl, hB⟩
def cellsP : List S68 → List Value
  | [] => []
  | p :: r => .string p.f0 :: .string p.f1 :: cellsP r
theorem cellsP_len : ∀ l, (cellsP l).length = l.length * 2
  | [] => rfl
  | p :: r => by simp [cellsP, cellsP_len r]; omega
theorem cellsP_at (l : List S68) : ∀ (i : Nat) (h : i < l.length), (cellsP l)[i * 2]? = some (.string l[i].f0) ∧ (cellsP l)[i * 2 + 1]? = some (.string l[i].f1) := by
  induction l with
  | nil => intro i h; simp at h
  | cons p r ih =>
    intro i h
    cases i with
    | zero => exact ⟨rfl, rfl⟩
    | succ i =>
      have := ih i (by simpa using h)
      rw [show (i + 1) * 2 = i * 2 + 1 + 1 by omega]
      simpa [cellsP] using this
theorem cellsP_set (l : List S68) (p : S68) : ∀ (i : Nat), i < l.length → ((cellsP l).set (i * 2) (.string p.f0)).set (i * 2 + 1) (.string p.f1) = cellsP (l.set i p) := by
  induction l with
  | nil => intro i h; simp at h
  | cons q r ih =>
    intro i h
    cases i with
    | zero => simp [cellsP]
    | succ i =>
      have := ih i (by simpa using h)
      rw [show (i + 1) * 2 = i * 2 + 1 + 1 by omega]
      simp [cellsP, this]
theorem cellsP_take (l : List S68) : ∀ i, (cellsP l).take (i * 2) = cellsP (l.take i) := by
  induction l with
  | nil => intro i; simp [cellsP]
  | cons p r ih =>
    intro i
    cases i with
    | zero => simp [cellsP]
    | succ i =>
      rw [show (i + 1) * 2 = i * 2 + 1 + 1 by omega]
      simp [cellsP, ih i]
theorem reps_pairs {W : World} {b : Nat} {ok : Nat → Prop} : ∀ (l : List S68), Reps (k68.M W b ok) 2 l (cellsP l)
  | [] => Reps.none _ _
  | p :: l => by
    have h := reps_pairs (W := W) (b := b) (ok := ok) l
    refine ⟨by rw [cellsP_len], fun j q hj => ?_⟩
    cases j with
    | zero =>
      simp at hj
      subst hj
      exact ⟨[.string p.f0], [.string p.f1], rfl, rfl, rfl⟩
    | succ j =>
      have h2 := h.2 j q (by simpa using hj)
      rw [show (j + 1) * 2 = j * 2 + 1 + 1 by omega]
      simpa [cellsP] using h2
theorem open_pairs {w : World} {base : Nat} {P : Nat → Prop} {v : Value} {l : List S68} (h : Kd.R k68 68 w base P v l) (h0 : l ≠ []) :
    ∃ g cap cur, v = .slice (some ⟨g, 0, none⟩) l.length cap ∧ P g ∧ base ≤ g ∧ w.heap[g]? = some (.cells cur 68 (0, 0)) ∧ l.length ≤ cap ∧ cap ≤ maxLen ∧ cur.size = cap * 2 ∧ cur.toList.take (l.length * 2) = cellsP l := by
  obtain ⟨hP, inner, ⟨hl, ho⟩, hr⟩ := h
  have hsz : inner.length = l.length * 2 := hr.1
  have hin : inner = cellsP l := by
    apply List.ext_getElem?
    intro i
    by_cases hi : i < l.length * 2
    · have hj : i / 2 < l.length := by omega
      obtain ⟨c0, c1, e, e0, e1⟩ := hr.2 (i / 2) l[i / 2] (List.getElem?_eq_getElem hj)
      have e0' : c0 = [Value.string l[i / 2].f0] := e0
      have e1' : c1 = [Value.string l[i / 2].f1] := e1
      subst e0' e1'
      have e' : (inner.drop (i / 2 * 2)).take 2 = [Value.string l[i / 2].f0, Value.string l[i / 2].f1] := e
      have hat := cellsP_at l (i / 2) hj
      rcases Nat.mod_two_eq_zero_or_one i with hm | hm
      · have hi2 : i = i / 2 * 2 := by omega
        have hg : ((inner.drop (i / 2 * 2)).take 2)[0]? = some (Value.string l[i / 2].f0) := by rw [e']; rfl
        rw [List.getElem?_take_of_lt (by omega), List.getElem?_drop, Nat.add_zero, ← hi2] at hg
        rw [hg]
        have := hat.1
        rw [← hi2] at this
        rw [this]
      · have hi2 : i = i / 2 * 2 + 1 := by omega
        have hg : ((inner.drop (i / 2 * 2)).take 2)[1]? = some (Value.string l[i / 2].f1) := by rw [e']; rfl
        rw [List.getElem?_take_of_lt (by omega), List.getElem?_drop, ← hi2] at hg
        rw [hg]
        have := hat.2
        rw [← hi2] at this
        rw [this]
    · rw [List.getElem?_eq_none (by omega), List.getElem?_eq_none (by rw [cellsP_len]; omega)]
  rcases ho with ⟨rfl, hn⟩ | ⟨g, cap, cur, rfl, hg, hh, hc1, hc2, hc3, ht⟩
  · exact absurd (List.eq_nil_of_length_eq_zero hn) h0
  · refine ⟨g, cap, cur, rfl, hP g rfl, hg, hh, hc1, hc2, hc3, ?_⟩
    rw [← hin]
    exact ht
theorem shut_pairs {w : World} {base g cap : Nat} {P : Nat → Prop} {cur : Array Value} {l : List S68} (hP : P g) (hg : base ≤ g) (hh : w.heap[g]? = some (.cells cur 68 (0, 0))) (hc1 : l.length ≤ cap) (hc2 : cap ≤ maxLen) (hc3 : cur.size = cap * 2) (ht : cur.toList.take (l.length * 2) = cellsP l) :
    Kd.R k68 68 w base P (.slice (some ⟨g, 0, none⟩) l.length cap) l := by
  refine ⟨fun k hk => ?_, cellsP l, ⟨cellsP_len l, .inr ⟨g, cap, cur, rfl, hg, hh, hc1, hc2, hc3, ht⟩⟩, reps_pairs l⟩
  have : g = k := by simpa [Value.ownBlock] using hk
  exact this ▸ hP
theorem run_clear_pairs (w : World) (g o n c : Nat) (hn : 0 < n) (hc : ∀ j, j < n * 2 → (w.cell? ⟨g, o + j, none⟩).isSome = true) (hf : ∀ j, j < n * 2 → w.frozen? ⟨g, o + j, none⟩ = false) :
    (Builtin.clear_ #[60] 0 #[.slice (some ⟨g, o, none⟩) n c]).run Tryz.prog w = .ok (.tuple #[]) (w.setCells g o (List.replicate (n * 2) (.string ⟨#[]⟩))) := by
  have hv : ∀ w, (zeroValue 68).run Tryz.prog w = .ok (.agg #[.string ⟨#[]⟩, .string ⟨#[]⟩]) w := fun w => by kernel_rfl
  have hzc : (Builtin.zeroCells (Value.agg #[.string ⟨#[]⟩, .string ⟨#[]⟩]).cells n).toList = List.replicate (n * 2) (Value.string ⟨#[]⟩) := by
    apply List.ext_getElem
    · simp [Builtin.zeroCells, Value.cells]
    · intro i h1 h2
      simp only [Builtin.zeroCells, Value.cells, List.getElem_replicate, Array.getElem_toList]
      rcases Nat.mod_two_eq_zero_or_one i with hm | hm <;> simp [hm]
  have hst := run_storeCells_cells (P := Tryz.prog) g o (List.replicate (n * 2) (.string ⟨#[]⟩)) 0 w (by simpa using hc) (by simpa using hf) (by intro v hv'; rw [List.eq_of_mem_replicate hv']; rfl)
  simp only [Nat.add_zero] at hst
  obtain ⟨m, rfl⟩ : ∃ m, n = m + 1 := ⟨n - 1, by omega⟩
  simp [Builtin.clear_, run_underlying Tryz.underlying60, hv, hzc, hst]
def keepL (l : List S68) : List S68 := l.filter fun q => !(q.f1.toList == [])
theorem placeE_spec : ∀ (l : List S68) (i : Nat), (placeE l i = -1 ∧ keepL l = l) ∨ ∃ k, k < l.length ∧ placeE l i = ((i + k : Nat) : Int) ∧ keepL (l.take (k + 1)) = l.take k
  | [], i => .inl ⟨rfl, rfl⟩
  | q :: r, i => by
    rw [placeE_cons]
    cases h : (q.f1.toList == []) with
    | true =>
      right
      rw [if_pos rfl]
      exact ⟨0, by simp, rfl, by simp [keepL, beq_iff_eq.1 h]⟩
    | false =>
      rw [if_neg (by simp)]
      rcases placeE_spec r (i + 1) with ⟨h1, h2⟩ | ⟨k, hk, h1, h2⟩
      · left
        refine ⟨h1, ?_⟩
        unfold keepL at h2 ⊢
        rw [List.filter_cons, h]
        simp only [Bool.not_false, if_true]
        rw [h2]
      · right
        refine ⟨k + 1, by simpa using hk, by rw [h1]; congr 1; omega, ?_⟩
        unfold keepL at h2 ⊢
        rw [List.take_succ_cons, List.take_succ_cons, List.filter_cons, h]
        simp only [Bool.not_false, if_true]
        rw [h2]
structure DelInv (w0 w wr : World) (g : Nat) (m : List S68) (sp : List Value) : Prop where
  b : wr.heap[g]? = some (.cells (cellsP m ++ sp).toArray 68 (0, 0))
  k : KeepBut w wr g none
  o : Below w0.heap.size w0 wr
  g : w0.heap.size ≤ g
section
variable {w0 w wr : World} {g : Nat} {m : List S68} {sp : List Value} (h : DelInv w0 w wr g m sp)
include h
theorem DelInv.at0 (i : Nat) (hi : i < m.length) : wr.cell? ⟨g, i * 2, none⟩ = some (.string m[i].f0) := by
  rw [blk_cell h.b, List.getElem?_toArray, List.getElem?_append_left (by rw [cellsP_len]; omega)]
  exact (cellsP_at m i hi).1
theorem DelInv.at1 (i : Nat) (hi : i < m.length) : wr.cell? ⟨g, i * 2 + 1, none⟩ = some (.string m[i].f1) := by
  rw [blk_cell h.b, List.getElem?_toArray, List.getElem?_append_left (by rw [cellsP_len]; omega)]
  exact (cellsP_at m i hi).2
theorem DelInv.step {w' : World} (hb : Below wr.heap.size wr w') : DelInv w0 w w' g m sp :=
  ⟨blk_below h.b hb, h.k.trans (KeepBut.of_below hb g none) (.inl rfl), h.o.trans (hb.mono h.o.size), h.g⟩
theorem DelInv.put (i : Nat) (hi : i < m.length) (p : S68) : DelInv w0 w ((wr.setCell ⟨g, i * 2, none⟩ (.string p.f0)).setCell ⟨g, i * 2 + 1, none⟩ (.string p.f1)) g (m.set i p) sp := by
  have hl := cellsP_len m
  refine ⟨blk_put (blk_put h.b (i * 2) _ rfl) (i * 2 + 1) _ ?_, (h.k.set_ _ _).set_ _ _, below_set (below_set h.o h.g) h.g, h.g⟩
  rw [← cellsP_set m p i hi]
  apply Array.ext'
  simp only [List.setIfInBounds_toArray, List.toList_toArray]
  rw [List.set_append_left _ _ (by omega), List.set_append_left _ _ (by rw [List.length_set]; omega)]
end
def api_Pair.f (l0 : List S68) : Option (List S68) := if l0 ≠ [] then some (keepL l0) else none
set_option maxHeartbeats 8000000 in
set_option maxRecDepth 100000 in
theorem api_Pair.calls (P0_ : Nat → Prop) (u9000_ : Value) (l0 r : List S68) (w0 w : World) (hB : Below w0.heap.size w0 w) (ho0 : Kd.R k68 68 w w0.heap.size P0_ u9000_ l0) (h : api_Pair.f l0 = some r) :
    Calls Tryz.prog 78 #[u9000_, .func (.func 79) #[] #[]] w fun e w' => ∃ v0_ : Value, e = .returned v0_ ∧ Kd.R k68 68 w' w0.heap.size (fun k_ => (P0_ k_ ∨ w.heap.size ≤ k_)) v0_ r ∧ Below w0.heap.size w0 w' ∧ Kept w w' (fun k_ => P0_ k_) := by
  unfold api_Pair.f at h
  split at h
  · rename_i h0
    obtain rfl := Option.some.inj h
    obtain ⟨g, cap, cur, rfl, hP, hg, hheap, hc1, hc2, hc3, ht⟩ := open_pairs ho0 h0
    have hC := (Kd.R_reads' ho0).2.2
    have hidx := index_empty (some ⟨g, 0, none⟩) cap l0 w hC
    rcases placeE_spec l0 0 with ⟨e, hk⟩ | ⟨k0, hk0, e, hk⟩
    · rw [e] at hidx
      rw [hk]
      go_enter Tryz.func78, Tryz.ntmps78
      go_wp2_with (go_at_call 113; refine hidx.mono ?_; rintro e w1 ⟨rfl, hb1⟩)
      go_ret
      exact ⟨_, rfl, Kd.R_mono (Kd.R_below ho0 hb1) (fun k hk => .inl hk), hB.trans (hb1.mono hB.size), ⟨hb1.size, fun i hi _ => hb1.block i hi⟩⟩
    · rw [Nat.zero_add] at e
      rw [e] at hidx
      obtain ⟨sp, hsp⟩ : ∃ sp, cur.toList.drop (l0.length * 2) = sp := ⟨_, rfl⟩
      have hcur : cur = (cellsP l0 ++ sp).toArray := by
        apply Array.ext'
        rw [← ht, ← hsp, List.toList_toArray, List.take_append_drop]
      have hn : l0.length ≤ 9223372036854775807 := by unfold maxLen at hc2; omega
      have hI : DelInv w0 w w g l0 sp := ⟨by rw [← hcur]; exact hheap, KeepBut.refl _ _ _, hB, hg⟩
      have e79 : ∀ args w, (callFunc 79 args).run Tryz.prog w = .ok (.enter 79 args) w := enters_of Tryz.func79 (by kernel_rfl) rfl
      have HK0 := Lib.hid hk
      clear hk e
      go_enter Tryz.func78, Tryz.ntmps78
      go_wp2_with (go_at_call 113; refine hidx.mono ?_; rintro e w1 ⟨rfl, hb1⟩)
      have hI1 := hI.step hb1
      go_loopw [5, 6] (fun v5 v6 wr => ∃ (i j : Nat) (m : List S68), v5 = .int .i64 (i : Int) ∧ v6 = .int .i64 (j : Int) ∧ i < j ∧ j ≤ l0.length ∧ m.length = l0.length ∧ m.take i = keepL (l0.take j) ∧ m.drop j = l0.drop j ∧ DelInv w0 w wr g m sp) (fun v5 v6 _ => l0.length - (intOf v6).toNat)
      case atStart => exact ⟨k0, k0 + 1, l0, rfl, rfl, by omega, by omega, rfl, HK0.out.symm, rfl, hI1⟩
      case round =>
        obtain ⟨i, j, m, rfl, rfl, hij, hj, hm, htake, hdrop, hJ⟩ := hrel
        have hni : i < m.length := by omega
        by_cases hlt : j < l0.length
        · have hmj : m[j]'(by omega) = l0[j] := by
            have h1 := congrArg (fun z => z[0]?) hdrop
            simp only [List.getElem?_drop, Nat.add_zero] at h1
            rw [List.getElem?_eq_getElem (by omega), List.getElem?_eq_getElem hlt] at h1
            exact Option.some.inj h1
          have hx0 := hJ.at0 j (by omega)
          have hx1 := hJ.at1 j (by omega)
          rw [hmj] at hx0 hx1
          have hdj : m.drop (j + 1) = l0.drop (j + 1) := by
            have h1 := congrArg (List.drop 1) hdrop
            simpa [List.drop_drop, Nat.add_comm] using h1
          have htj : keepL (l0.take (j + 1)) = keepL (l0.take j) ++ (if (l0[j].f1.toList == []) = true then [] else [l0[j]]) := by
            unfold keepL
            rw [List.take_succ_eq_append_getElem hlt, List.filter_append]
            congr 1
            rw [List.filter_cons, List.filter_nil]
            cases l0[j].f1.toList == [] <;> rfl
          generalize hpk : l0[j] = p at *
          have hcall := empty_one p.f0 p.f1 (wr.alloc (.cells #[.string p.f0, .string p.f1] 68))
          have hJ1 := hJ.step (below_alloc (Below.refl _ _) (.cells #[.string p.f0, .string p.f1] 68))
          have hvb := blk_new wr (.cells #[.string p.f0, .string p.f1] 68)
          obtain ⟨q, hq⟩ : ∃ q, (p.f1.toList == []) = q := ⟨_, rfl⟩
          rw [hq] at hcall htj
          have HJ := Lib.hid hJ
          have HJ1 := Lib.hid hJ1
          have HT := Lib.hid htj
          have HT0 := Lib.hid htake
          have HD := Lib.hid hdj
          clear hJ hJ1 htj htake hdj hdrop hmj
          cases q with
          | true =>
            go_wp2_with (go_at_fn 79; refine hcall.mono ?_; rintro e w2 ⟨rfl, hb2⟩; have hv2 := blk_below hvb hb2; have v0 := blk_cell hv2 0; have v1 := blk_cell hv2 1; have hJ2 := HJ1.out.step hb2)
            go_roundw
            case rel =>
              repeat apply Exists.intro
              exact ⟨⟨i, j + 1, m, rfl, rfl, by omega, by omega, hm, by rw [HT.out, if_pos trivial, List.append_nil]; exact HT0.out, HD.out, hJ2⟩, rfl⟩
            case measure => simp [intOf]; omega
          | false =>
            go_wp2_with (go_at_fn 79; refine hcall.mono ?_; rintro e w2 ⟨rfl, hb2⟩; have hv2 := blk_below hvb hb2; have v0 := blk_cell hv2 0; have v1 := blk_cell hv2 1; have hJ2 := HJ1.out.step hb2; have s0 := hJ2.at0 i hni; have s1 := hJ2.at1 i hni; have f0 := blk_frozen hJ2.b (i * 2); have f1 := blk_frozen hJ2.b (i * 2 + 1); have hJ3 := hJ2.put i hni p)
            go_roundw
            case rel =>
              repeat apply Exists.intro
              exact ⟨⟨i + 1, j + 1, m.set i p, rfl, rfl, by omega, by omega, by rw [List.length_set]; exact hm, by rw [HT.out, if_neg (by simp), ← HT0.out, List.take_succ_eq_append_getElem (by rw [List.length_set]; exact hni), List.take_set_of_le (Nat.le_refl _), List.getElem_set_self], by rw [List.drop_set_of_lt (by omega)]; exact HD.out, hJ3⟩, rfl⟩
            case measure => simp [intOf]; omega
        · have hge : decide (j < l0.length) = false := decide_eq_false hlt
          have hjl : j = l0.length := by omega
          subst hjl
          rw [List.take_of_length_le (Nat.le_refl _)] at htake
          have HJ := Lib.hid hJ
          have HT0 := Lib.hid htake
          clear hJ htake hdrop
          obtain ⟨cur', q1, q2, q3⟩ := setCells_row (List.replicate ((l0.length - i) * 2) (.string ⟨#[]⟩)) (i * 2) wr _ HJ.out.b (by simp [cellsP_len]; omega)
          have hrun := run_clear_pairs wr g (i * 2) (l0.length - i) (cap - i) (by omega) (fun j hj => by rw [blk_cell HJ.out.b, List.getElem?_toArray, List.getElem?_eq_getElem (by rw [List.length_append, cellsP_len]; omega)]; rfl) (fun j hj => blk_frozen HJ.out.b _)
          have hsame := setCells_same g (List.replicate ((l0.length - i) * 2) (.string ⟨#[]⟩)) (i * 2) wr
          have hfar : ∀ q, q ≠ g → (wr.setCells g (i * 2) (List.replicate ((l0.length - i) * 2) (.string ⟨#[]⟩))).heap[q]? = wr.heap[q]? := fun q hq => setCells_far _ _ q hq
          have H1 := Lib.hid q1
          have H2 := Lib.hid q2
          have H3 := Lib.hid q3
          have H4 := Lib.hid hsame
          have H5 := Lib.hid hfar
          have hcap : decide (cap < i) = false := decide_eq_false (by omega)
          clear q1 q2 q3 hsame hfar
          go_wp2
          go_ret
          have hil : (keepL l0).length = i := by
            have := congrArg List.length HT0.out
            rw [List.length_take, Nat.min_eq_left (by omega)] at this
            exact this.symm
          have hshut := shut_pairs (l := keepL l0) (cap := cap) (P := fun k_ => P0_ k_ ∨ w.heap.size ≤ k_) (.inl hP) hg H1.out (by omega) hc2 (by rw [H2.out, ← hc3, hcur, List.size_toArray, List.size_toArray, List.length_append, List.length_append, cellsP_len, cellsP_len, hm]) (by
            rw [H3.out, hil, List.append_assoc, List.take_append_of_le_length (by rw [List.length_take]; simp [cellsP_len]; omega), List.take_take, Nat.min_self, List.take_append_of_le_length (by rw [cellsP_len]; omega), cellsP_take, HT0.out])
          rw [hil] at hshut
          have ho := HJ.out.o
          have hk := HJ.out.k
          refine ⟨_, rfl, hshut, ⟨H4.out.1.trans ho.os, H4.out.2.1.trans ho.tape, H4.out.2.2.1.trans ho.output, by rw [H4.out.2.2.2]; exact ho.size, fun q hq => (H5.out q (by omega)).trans (ho.block q hq)⟩, by rw [H4.out.2.2.2]; exact hk.1, fun q hq hn => ?_⟩
          have hqg : q ≠ g := fun e => hn (e ▸ hP)
          exact (H5.out q hqg).trans (hk.2 q hq hqg (by simp))
  · cases h
end Go.Proofs.YtmimipgmhgalaaaGreatDoor.PAll
end
section
namespace Go.Proofs.YtmimipgmhgalaaaGreatDoor.Pure
open Go.RowKit Go.Proofs.YtmimipgmhgalaaaGreatDoorW.PrintWords Go.Proofs.YtmimipgmhgalaaaGreatDoor.Plain Go.Proofs.YtmimipgmhgalaaaGreatDoor.Spec
set_option linter.unusedSimpArgs false
set_option linter.unusedVariables false
end Go.Proofs.YtmimipgmhgalaaaGreatDoor.Pure
end
