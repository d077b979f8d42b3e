/-
  Part 4 of what the proof of ClientParses leans on: words of the print, walks of functions and plain laws; put together by pack.py, a program of this session.
-/
import Derived.Outline
import Derived.Test.YtmimipgmhgalaaaGreatDoorKClientParsesc
section
namespace Go.Proofs.YtmimipgmhgalaaaGreatDoor.PAll
open Go.RowKit Go.Proofs.YtmimipgmhgalaaaGreatDoorW.PrintWords Go.Proofs.YtmimipgmhgalaaaGreatDoorW.PrintLast Go.Proofs.YtmimipgmhgalaaaGreatDoorW.PrintMore
attribute [local go_sem] max2_int min2_int max_two min_two max_three min_three max_four min_four
set_option linter.unusedVariables false
set_option linter.unusedSimpArgs false
mutual
def wicketref11_Check.j0 : Nat → Bool → ByteArray → ByteArray → Int → Bool → ByteArray → List ByteArray → Option (Int)
 | 0, _, _, _, _, _, _, _ => none
 | k + 1, x5, x347000, x347001, x347002, x347003, x347004, x347005 => if x347003 = true then (if x347002 ≥ 2 then (wicketref11_Check.j1 k x5 (x347001.toList != ([] : List UInt8)) x347000 x347001 x347002 x347003 x347004 x347005) else (wicketref11_Check.j1 k x5 false x347000 x347001 x347002 x347003 x347004 x347005)) else (wicketref11_Check.j1 k x5 true x347000 x347001 x347002 x347003 x347004 x347005)
def wicketref11_Check.j1 : Nat → Bool → Bool → ByteArray → ByteArray → Int → Bool → ByteArray → List ByteArray → Option (Int)
 | 0, _, _, _, _, _, _, _, _ => none
 | k + 1, x5, x6, x347000, x347001, x347002, x347003, x347004, x347005 => (wicketref11_bytes.f k x347000 33 126 1 64).bind fun t353 => (if t353 = true then ((wicketref11_bytes.f k x347001 32 126 0 256).bind fun t354 => (if t354 = true then (if x347002 ≥ 1 then (if x347002 ≤ 3 then (if x6 = true then ((wicketref11_url.f k x347000 x347001 x347002 x347003 x347004 x347005).bind fun t355 => (if t355 = true then (if x5 = true then (some 0) else (some 111)) else (some 111))) else (some 111)) else (some 111)) else (some 111)) else (some 111))) else (some 111))
end
def wicketref11_Check.f (k : Nat) (a0_0 : ByteArray) (a0_1 : ByteArray) (a0_2 : Int) (a0_3 : Bool) (a0_4 : ByteArray) (l0_5 : List ByteArray) : Option (Int) := (wicketref11_Joined.f k l0_5).bind fun t347 => ((wicketref03_Scopes.f k t347).bind fun bt348 => (if bt348.2 = 0 then ((wicketref11_texts.f k bt348.1 l0_5).bind fun t352 => (wicketref11_Check.j0 k t352 a0_0 a0_1 a0_2 a0_3 a0_4 l0_5)) else (wicketref11_Check.j0 k false a0_0 a0_1 a0_2 a0_3 a0_4 l0_5)))
set_option maxHeartbeats 8000000 in
set_option maxRecDepth 100000 in
theorem wicketref11_Check.calls (k : Nat) (a0_0 : ByteArray) (a0_1 : ByteArray) (a0_2 : Int) (a0_3 : Bool) (a0_4 : ByteArray) (A0_5 : Option Addr) (c0_5 : Nat) (l0_5 : List ByteArray) (r : Int) (w : World) (hr0_5 : Kd.C Kd.string w A0_5 l0_5.length l0_5) (hc0_5 : l0_5.length ≤ c0_5) (h : wicketref11_Check.f k a0_0 a0_1 a0_2 a0_3 a0_4 l0_5 = some r) :
 Calls Tryz.prog 26 #[.agg #[.string a0_0, .string a0_1, .int .i64 a0_2, .bool a0_3, .string a0_4, .slice A0_5 l0_5.length c0_5]] w fun e w' => e = .returned (.int .i64 r) ∧ Below w.heap.size w w' := by
 have hu43 := Tryz.underlying43
 have HR0_5 := Aside0.mk hr0_5
 have HC0_5 := Aside0.mk hc0_5
 clear hr0_5 hc0_5
 have HB := Aside0.mk (Below.refl w.heap.size w)
 have H : ((wicketref11_Joined.f k l0_5).bind fun t347 => ((wicketref03_Scopes.f k t347).bind fun bt348 => (if bt348.2 = 0 then ((wicketref11_texts.f k bt348.1 l0_5).bind fun t352 => (wicketref11_Check.j0 k t352 a0_0 a0_1 a0_2 a0_3 a0_4 l0_5)) else (wicketref11_Check.j0 k false a0_0 a0_1 a0_2 a0_3 a0_4 l0_5)))) = some r := h
 clear h
 replace H := Option.bind_eq_some_iff.mp H
 obtain ⟨t347, A20, H⟩ := H
 replace H : ((wicketref03_Scopes.f k t347).bind fun bt348 => (if bt348.2 = 0 then ((wicketref11_texts.f k bt348.1 l0_5).bind fun t352 => (wicketref11_Check.j0 k t352 a0_0 a0_1 a0_2 a0_3 a0_4 l0_5)) else (wicketref11_Check.j0 k false a0_0 a0_1 a0_2 a0_3 a0_4 l0_5))) = some r := H
 have A2 := Aside0.mk A20
 clear A20
 replace H := Option.bind_eq_some_iff.mp H
 obtain ⟨⟨t348, t349⟩, A30, H⟩ := H
 replace H : (if t349 = 0 then ((wicketref11_texts.f k t348 l0_5).bind fun t352 => (wicketref11_Check.j0 k t352 a0_0 a0_1 a0_2 a0_3 a0_4 l0_5)) else (wicketref11_Check.j0 k false a0_0 a0_1 a0_2 a0_3 a0_4 l0_5)) = some r := H
 have A3 := Aside0.mk A30
 clear A30
 have HC4 := Aside0.mk H
 clear H
 go_enter Tryz.func26, Tryz.ntmps26
 go_upto_region 2 with (first | ((with_reducible refine gate_dst (N := 1) rfl ?_); refine box_event ?hg (N := 1) ?hd (cs := #[.string a0_0, .string a0_1, .int .i64 a0_2, .bool a0_3, .string a0_4, .slice A0_5 l0_5.length c0_5]) (t := 43) ?hr ?_; (case hd => rfl); (case hg => rfl); (case hr => (go_simp; done)); intro gb346 hg w5 hbox hb; have BK346 := Aside0.mk hbox; have GW346 := Aside0.mk ((by rw [hg]; exact (below_size HB.out) : w.heap.size ≤ gb346)); have GE346 := Aside0.mk ((by rw [hg]; exact (below_size HB.out) : w.heap.size ≤ gb346)); replace HB := Aside0.mk (below_step HB.out hb); clear hb hbox hg; obtain ⟨hcz6_0, hcz6_1, hcz6_2, hcz6_3, hcz6_4, hcz6_5, hfz6_0, hfz6_1, hfz6_2, hfz6_3, hfz6_4, hfz6_5⟩ := cz6_ BK346.out) | ((with_reducible refine gate_callee (f := 42) rfl ?_); refine goesL_ (some 10) rfl rfl Tryz.func42 (by kernel_rfl) rfl #[.slice A0_5 l0_5.length c0_5] rfl (by ((try simp only [List.map_toArray, List.map_cons, List.map_nil]); (rfl))) ?_; (with_reducible refine (wicketref11_Joined.calls k _ _ l0_5 t347 _ ?side1 ?side2 A2.out).mono ?_); (case side1 => repeat (exact (Kd.C_below HR0_5.out HB.out))); (case side2 => exact HC0_5.out); rintro e w' ⟨rfl, ⟨nd, rfl⟩⟩; refine ⟨_, rfl, ?_⟩) | ((with_reducible refine gate_callee (f := 43) rfl ?_); refine goesL_ (some 11) rfl rfl Tryz.func43 (by kernel_rfl) rfl #[.string t347] rfl (by ((try simp only [List.map_toArray, List.map_cons, List.map_nil]); (rfl))) ?_; (with_reducible refine (wicketref03_Scopes.calls k t347 t348 t349 _ A3.out).mono ?_); rintro e w7 ⟨v350, rfl, ho0, hb⟩; refine ⟨_, rfl, ?_⟩; have HO351 := Aside0.mk (Kd.R_lower ho0 (below_size (by (repeat (with_reducible first | exact HB.out | apply pw_below_drewN))))); replace BK346 := Aside0.mk (blk_below (g := gb346) (o := .cells #[.string a0_0, .string a0_1, .int .i64 a0_2, .bool a0_3, .string a0_4, .slice A0_5 l0_5.length c0_5] 43 (0, 0)) (by ((with_reducible repeat (refine blk_drewN ?_ _)); exact BK346.out)) hb); replace HB := Aside0.mk (below_step (by (repeat (with_reducible first | exact HB.out | apply pw_below_drewN))) hb); clear hb ho0))
 go_cut [5] (fun v5 wc => ∃ (kq : Nat) (x5_3 : Bool), v5 = .bool x5_3 ∧ Aside0 (wicketref11_Check.j0 kq x5_3 a0_0 a0_1 a0_2 a0_3 a0_4 l0_5 = some r) ∧ Aside0 (kq ≤ k) ∧ Aside0 (wc.heap[gb346]? = some (.cells #[.string a0_0, .string a0_1, .int .i64 a0_2, .bool a0_3, .string a0_4, (.slice A0_5 l0_5.length c0_5)] 43 (0, 0))) ∧ Aside0 (Below w.heap.size w wc))
 case first =>
  have H := HC4.out
  clear HC4
  by_cases c8 : t349 = 0
  · rw [if_pos c8] at H
    have c8b0 : (t349 == 0) = true := beq_iff_eq.mpr c8
    have c8b1 : (t349 != 0) = false := bne_eq_false_iff_eq.mpr c8
    clear c8
    replace H := Option.bind_eq_some_iff.mp H
    obtain ⟨t352, A90, H⟩ := H
    replace H : (wicketref11_Check.j0 k t352 a0_0 a0_1 a0_2 a0_3 a0_4 l0_5) = some r := H
    have A9 := Aside0.mk A90
    clear A90
    have H' := Aside0.mk H
    clear H
    obtain ⟨hcz10_0, hcz10_1, hcz10_2, hcz10_3, hcz10_4, hcz10_5, hfz10_0, hfz10_1, hfz10_2, hfz10_3, hfz10_4, hfz10_5⟩ := cz6_ BK346.out
    obtain ⟨Ao11, co11, eo11⟩ := Kd.R_slice HO351.out
    subst eo11
    go_wp2_with (first | (go_at_call 57; (with_reducible refine (wicketref11_texts.calls k _ _ t348 _ _ l0_5 t352 _ ?side1 ?side2 ?side3 ?side4 A9.out).mono ?_); (case side1 => repeat (exact (Kd.R_reads' HO351.out).2.2)); (case side2 => exact (Kd.R_reads' HO351.out).2.1); (case side3 => repeat (exact (Kd.C_below HR0_5.out HB.out))); (case side4 => exact HC0_5.out); rintro e w' ⟨rfl, ⟨nd, rfl⟩⟩))
    go_meet
    case rel => exact ⟨_, (t352), rfl, H', ⟨by (omega)⟩, ⟨by ((with_reducible repeat (refine blk_drewN ?_ _)); exact BK346.out)⟩, ⟨by (repeat (with_reducible first | exact HB.out | apply pw_below_drewN))⟩⟩
  · rw [if_neg c8] at H
    have c8b0 : (t349 == 0) = false := beq_eq_false_iff_ne.mpr c8
    have c8b1 : (t349 != 0) = true := bne_iff_ne.mpr c8
    have H' := Aside0.mk H
    clear H
    go_wp2
    go_meet
    case rel => exact ⟨_, (false), rfl, H', ⟨by (omega)⟩, ⟨BK346.out⟩, ⟨HB.out⟩⟩
 case rest =>
  clear HC4 hcz6_0 hcz6_1 hcz6_2 hcz6_3 hcz6_4 hcz6_5 hfz6_0 hfz6_1 hfz6_2 hfz6_3 hfz6_4 hfz6_5
  obtain ⟨kq, x5_3, rfl, HA, HJ3, BK346, HB⟩ := hcut
  cases kq with
  | zero => exact absurd HA.out (by simp [wicketref11_Check.j0])
  | succ kj3 =>
   have H := HA.out
   clear HA
   simp only [wicketref11_Check.j0] at H
   have HC12 := Aside0.mk H
   clear H
   go_upto_region 3 with (fail)
   go_cut [6] (fun v6 wc => ∃ (kq : Nat) (x6_11 : Bool), v6 = .bool x6_11 ∧ Aside0 (wicketref11_Check.j1 kq x5_3 x6_11 a0_0 a0_1 a0_2 a0_3 a0_4 l0_5 = some r) ∧ Aside0 (kq ≤ kj3) ∧ Aside0 (wc.heap[gb346]? = some (.cells #[.string a0_0, .string a0_1, .int .i64 a0_2, .bool a0_3, .string a0_4, (.slice A0_5 l0_5.length c0_5)] 43 (0, 0))) ∧ Aside0 (Below w.heap.size w wc))
   case first =>
    have H := HC12.out
    clear HC12
    by_cases c13 : a0_3 = true
    · subst c13
      have H1 : (if a0_2 ≥ 2 then (wicketref11_Check.j1 kj3 x5_3 (a0_1.toList != ([] : List UInt8)) a0_0 a0_1 a0_2 true a0_4 l0_5) else (wicketref11_Check.j1 kj3 x5_3 false a0_0 a0_1 a0_2 true a0_4 l0_5)) = some r := by rw [if_pos rfl] at H; exact H
      clear H
      have H := H1
      clear H1
      by_cases c14 : a0_2 ≥ 2
      · rw [if_pos c14] at H
        have c14b0 : decide (2 ≤ a0_2) = true := decide_eq_true c14
        clear c14
        have H' := Aside0.mk H
        clear H
        obtain ⟨hcz15_0, hcz15_1, hcz15_2, hcz15_3, hcz15_4, hcz15_5, hfz15_0, hfz15_1, hfz15_2, hfz15_3, hfz15_4, hfz15_5⟩ := cz6_ BK346.out
        go_wp2
        go_meet
        case rel => exact ⟨_, ((a0_1.toList != ([] : List UInt8))), (by (simp; (generalize ByteArray.toList _ = z_); cases z_ <;> rfl)), H', ⟨by have := HJ3.out; (omega)⟩, ⟨BK346.out⟩, ⟨HB.out⟩⟩
      · rw [if_neg c14] at H
        have c14b0 : decide (2 ≤ a0_2) = false := decide_eq_false c14
        clear c14
        have H' := Aside0.mk H
        clear H
        obtain ⟨hcz16_0, hcz16_1, hcz16_2, hcz16_3, hcz16_4, hcz16_5, hfz16_0, hfz16_1, hfz16_2, hfz16_3, hfz16_4, hfz16_5⟩ := cz6_ BK346.out
        go_wp2
        go_meet
        case rel => exact ⟨_, (false), rfl, H', ⟨by have := HJ3.out; (omega)⟩, ⟨BK346.out⟩, ⟨HB.out⟩⟩
    · replace c13 := Bool.eq_false_iff.mpr c13
      subst c13
      have H1 : (wicketref11_Check.j1 kj3 x5_3 true a0_0 a0_1 a0_2 false a0_4 l0_5) = some r := by rw [if_neg (show ¬ (false = true) by decide)] at H; exact H
      clear H
      have H := H1
      clear H1
      have H' := Aside0.mk H
      clear H
      obtain ⟨hcz17_0, hcz17_1, hcz17_2, hcz17_3, hcz17_4, hcz17_5, hfz17_0, hfz17_1, hfz17_2, hfz17_3, hfz17_4, hfz17_5⟩ := cz6_ BK346.out
      go_wp2
      go_meet
      case rel => exact ⟨_, (true), rfl, H', ⟨by have := HJ3.out; (omega)⟩, ⟨BK346.out⟩, ⟨HB.out⟩⟩
   case rest =>
    clear HC12
    obtain ⟨kq, x6_11, rfl, HA, HJ11, BK346, HB⟩ := hcut
    cases kq with
    | zero => exact absurd HA.out (by simp [wicketref11_Check.j1])
    | succ kj11 =>
     have H := HA.out
     clear HA
     simp only [wicketref11_Check.j1] at H
     replace H := Option.bind_eq_some_iff.mp H
     obtain ⟨t353, A180, H⟩ := H
     replace H : (if t353 = true then ((wicketref11_bytes.f kj11 a0_1 32 126 0 256).bind fun t354 => (if t354 = true then (if a0_2 ≥ 1 then (if a0_2 ≤ 3 then (if x6_11 = true then ((wicketref11_url.f kj11 a0_0 a0_1 a0_2 a0_3 a0_4 l0_5).bind fun t355 => (if t355 = true then (if x5_3 = true then (some 0) else (some 111)) else (some 111))) else (some 111)) else (some 111)) else (some 111)) else (some 111))) else (some 111)) = some r := H
     have A18 := Aside0.mk A180
     clear A180
     by_cases c19 : t353 = true
     · subst c19
       have H1 : ((wicketref11_bytes.f kj11 a0_1 32 126 0 256).bind fun t354 => (if t354 = true then (if a0_2 ≥ 1 then (if a0_2 ≤ 3 then (if x6_11 = true then ((wicketref11_url.f kj11 a0_0 a0_1 a0_2 a0_3 a0_4 l0_5).bind fun t355 => (if t355 = true then (if x5_3 = true then (some 0) else (some 111)) else (some 111))) else (some 111)) else (some 111)) else (some 111)) else (some 111))) = some r := by rw [if_pos rfl] at H; exact H
       clear H
       have H := H1
       clear H1
       replace H := Option.bind_eq_some_iff.mp H
       obtain ⟨t354, A200, H⟩ := H
       replace H : (if t354 = true then (if a0_2 ≥ 1 then (if a0_2 ≤ 3 then (if x6_11 = true then ((wicketref11_url.f kj11 a0_0 a0_1 a0_2 a0_3 a0_4 l0_5).bind fun t355 => (if t355 = true then (if x5_3 = true then (some 0) else (some 111)) else (some 111))) else (some 111)) else (some 111)) else (some 111)) else (some 111)) = some r := H
       have A20 := Aside0.mk A200
       clear A200
       by_cases c21 : t354 = true
       · subst c21
         have H1 : (if a0_2 ≥ 1 then (if a0_2 ≤ 3 then (if x6_11 = true then ((wicketref11_url.f kj11 a0_0 a0_1 a0_2 a0_3 a0_4 l0_5).bind fun t355 => (if t355 = true then (if x5_3 = true then (some 0) else (some 111)) else (some 111))) else (some 111)) else (some 111)) else (some 111)) = some r := by rw [if_pos rfl] at H; exact H
         clear H
         have H := H1
         clear H1
         by_cases c22 : a0_2 ≥ 1
         · rw [if_pos c22] at H
           have c22b0 : decide (1 ≤ a0_2) = true := decide_eq_true c22
           clear c22
           by_cases c23 : a0_2 ≤ 3
           · rw [if_pos c23] at H
             have c23b0 : decide (a0_2 ≤ 3) = true := decide_eq_true c23
             clear c23
             by_cases c24 : x6_11 = true
             · subst c24
               have H1 : ((wicketref11_url.f kj11 a0_0 a0_1 a0_2 a0_3 a0_4 l0_5).bind fun t355 => (if t355 = true then (if x5_3 = true then (some 0) else (some 111)) else (some 111))) = some r := by rw [if_pos rfl] at H; exact H
               clear H
               have H := H1
               clear H1
               replace H := Option.bind_eq_some_iff.mp H
               obtain ⟨t355, A250, H⟩ := H
               replace H : (if t355 = true then (if x5_3 = true then (some 0) else (some 111)) else (some 111)) = some r := H
               have A25 := Aside0.mk A250
               clear A250
               by_cases c26 : t355 = true
               · subst c26
                 have H1 : (if x5_3 = true then (some 0) else (some 111)) = some r := by rw [if_pos rfl] at H; exact H
                 clear H
                 have H := H1
                 clear H1
                 by_cases c27 : x5_3 = true
                 · subst c27
                   have H1 : (some 0) = some r := by rw [if_pos rfl] at H; exact H
                   clear H
                   have H := H1
                   clear H1
                   obtain rfl := Option.some.inj H
                   obtain ⟨hcz28_0, hcz28_1, hcz28_2, hcz28_3, hcz28_4, hcz28_5, hfz28_0, hfz28_1, hfz28_2, hfz28_3, hfz28_4, hfz28_5⟩ := cz6_ BK346.out
                   go_wp2_with (first | ((with_reducible refine gate_callee (f := 58) rfl ?_); refine goesL_ (some 37) rfl rfl Tryz.func58 (by kernel_rfl) rfl #[.string a0_0, .int .u8 33, .int .u8 126, .int .i64 1, .int .i64 64] rfl (by ((try simp only [List.map_toArray, List.map_cons, List.map_nil]); (rfl))) ?_; (with_reducible refine (wicketref11_bytes.calls kj11 a0_0 33 126 1 64 true _ A18.out).mono ?_); rintro e w' ⟨rfl, ⟨nd, rfl⟩⟩; refine ⟨_, rfl, ?_⟩) | (go_at_call 58; (with_reducible refine (wicketref11_bytes.calls kj11 a0_1 32 126 0 256 true _ A20.out).mono ?_); rintro e w' ⟨rfl, ⟨nd, rfl⟩⟩) | (go_at_call 59; (with_reducible refine (wicketref11_url.calls kj11 a0_0 a0_1 a0_2 a0_3 a0_4 _ _ l0_5 true _ ?side1 ?side2 A25.out).mono ?_); (case side1 => repeat (exact (Kd.C_below HR0_5.out (by (repeat (with_reducible first | exact HB.out | apply pw_below_drewN)))))); (case side2 => exact HC0_5.out); rintro e w29 ⟨rfl, hb⟩; replace BK346 := Aside0.mk (blk_below (g := gb346) (o := .cells #[.string a0_0, .string a0_1, .int .i64 a0_2, .bool a0_3, .string a0_4, .slice A0_5 l0_5.length c0_5] 43 (0, 0)) (by ((with_reducible repeat (refine blk_drewN ?_ _)); exact BK346.out)) hb); replace HB := Aside0.mk (below_step (by (repeat (with_reducible first | exact HB.out | apply pw_below_drewN))) hb); clear hb))
                   go_ret
                   exact ⟨by (rfl), by (with_reducible exact HB.out)⟩
                 · replace c27 := Bool.eq_false_iff.mpr c27
                   subst c27
                   have H1 : (some 111) = some r := by rw [if_neg (show ¬ (false = true) by decide)] at H; exact H
                   clear H
                   have H := H1
                   clear H1
                   obtain rfl := Option.some.inj H
                   obtain ⟨hcz30_0, hcz30_1, hcz30_2, hcz30_3, hcz30_4, hcz30_5, hfz30_0, hfz30_1, hfz30_2, hfz30_3, hfz30_4, hfz30_5⟩ := cz6_ BK346.out
                   go_wp2_with (first | ((with_reducible refine gate_callee (f := 58) rfl ?_); refine goesL_ (some 37) rfl rfl Tryz.func58 (by kernel_rfl) rfl #[.string a0_0, .int .u8 33, .int .u8 126, .int .i64 1, .int .i64 64] rfl (by ((try simp only [List.map_toArray, List.map_cons, List.map_nil]); (rfl))) ?_; (with_reducible refine (wicketref11_bytes.calls kj11 a0_0 33 126 1 64 true _ A18.out).mono ?_); rintro e w' ⟨rfl, ⟨nd, rfl⟩⟩; refine ⟨_, rfl, ?_⟩) | (go_at_call 58; (with_reducible refine (wicketref11_bytes.calls kj11 a0_1 32 126 0 256 true _ A20.out).mono ?_); rintro e w' ⟨rfl, ⟨nd, rfl⟩⟩) | (go_at_call 59; (with_reducible refine (wicketref11_url.calls kj11 a0_0 a0_1 a0_2 a0_3 a0_4 _ _ l0_5 true _ ?side1 ?side2 A25.out).mono ?_); (case side1 => repeat (exact (Kd.C_below HR0_5.out (by (repeat (with_reducible first | exact HB.out | apply pw_below_drewN)))))); (case side2 => exact HC0_5.out); rintro e w31 ⟨rfl, hb⟩; replace BK346 := Aside0.mk (blk_below (g := gb346) (o := .cells #[.string a0_0, .string a0_1, .int .i64 a0_2, .bool a0_3, .string a0_4, .slice A0_5 l0_5.length c0_5] 43 (0, 0)) (by ((with_reducible repeat (refine blk_drewN ?_ _)); exact BK346.out)) hb); replace HB := Aside0.mk (below_step (by (repeat (with_reducible first | exact HB.out | apply pw_below_drewN))) hb); clear hb))
                   go_ret
                   exact ⟨by (rfl), by (with_reducible exact HB.out)⟩
               · replace c26 := Bool.eq_false_iff.mpr c26
                 subst c26
                 have H1 : (some 111) = some r := by rw [if_neg (show ¬ (false = true) by decide)] at H; exact H
                 clear H
                 have H := H1
                 clear H1
                 obtain rfl := Option.some.inj H
                 obtain ⟨hcz32_0, hcz32_1, hcz32_2, hcz32_3, hcz32_4, hcz32_5, hfz32_0, hfz32_1, hfz32_2, hfz32_3, hfz32_4, hfz32_5⟩ := cz6_ BK346.out
                 go_wp2_with (first | ((with_reducible refine gate_callee (f := 58) rfl ?_); refine goesL_ (some 37) rfl rfl Tryz.func58 (by kernel_rfl) rfl #[.string a0_0, .int .u8 33, .int .u8 126, .int .i64 1, .int .i64 64] rfl (by ((try simp only [List.map_toArray, List.map_cons, List.map_nil]); (rfl))) ?_; (with_reducible refine (wicketref11_bytes.calls kj11 a0_0 33 126 1 64 true _ A18.out).mono ?_); rintro e w' ⟨rfl, ⟨nd, rfl⟩⟩; refine ⟨_, rfl, ?_⟩) | (go_at_call 58; (with_reducible refine (wicketref11_bytes.calls kj11 a0_1 32 126 0 256 true _ A20.out).mono ?_); rintro e w' ⟨rfl, ⟨nd, rfl⟩⟩) | (go_at_call 59; (with_reducible refine (wicketref11_url.calls kj11 a0_0 a0_1 a0_2 a0_3 a0_4 _ _ l0_5 false _ ?side1 ?side2 A25.out).mono ?_); (case side1 => repeat (exact (Kd.C_below HR0_5.out (by (repeat (with_reducible first | exact HB.out | apply pw_below_drewN)))))); (case side2 => exact HC0_5.out); rintro e w33 ⟨rfl, hb⟩; replace BK346 := Aside0.mk (blk_below (g := gb346) (o := .cells #[.string a0_0, .string a0_1, .int .i64 a0_2, .bool a0_3, .string a0_4, .slice A0_5 l0_5.length c0_5] 43 (0, 0)) (by ((with_reducible repeat (refine blk_drewN ?_ _)); exact BK346.out)) hb); replace HB := Aside0.mk (below_step (by (repeat (with_reducible first | exact HB.out | apply pw_below_drewN))) hb); clear hb))
                 go_ret
                 exact ⟨by (rfl), by (with_reducible exact HB.out)⟩
             · replace c24 := Bool.eq_false_iff.mpr c24
               subst c24
               have H1 : (some 111) = some r := by rw [if_neg (show ¬ (false = true) by decide)] at H; exact H
               clear H
               have H := H1
               clear H1
               obtain rfl := Option.some.inj H
               obtain ⟨hcz34_0, hcz34_1, hcz34_2, hcz34_3, hcz34_4, hcz34_5, hfz34_0, hfz34_1, hfz34_2, hfz34_3, hfz34_4, hfz34_5⟩ := cz6_ BK346.out
               go_wp2_with (first | ((with_reducible refine gate_callee (f := 58) rfl ?_); refine goesL_ (some 37) rfl rfl Tryz.func58 (by kernel_rfl) rfl #[.string a0_0, .int .u8 33, .int .u8 126, .int .i64 1, .int .i64 64] rfl (by ((try simp only [List.map_toArray, List.map_cons, List.map_nil]); (rfl))) ?_; (with_reducible refine (wicketref11_bytes.calls kj11 a0_0 33 126 1 64 true _ A18.out).mono ?_); rintro e w' ⟨rfl, ⟨nd, rfl⟩⟩; refine ⟨_, rfl, ?_⟩) | (go_at_call 58; (with_reducible refine (wicketref11_bytes.calls kj11 a0_1 32 126 0 256 true _ A20.out).mono ?_); rintro e w' ⟨rfl, ⟨nd, rfl⟩⟩))
               go_ret
               exact ⟨by (rfl), by (repeat (with_reducible first | exact HB.out | apply pw_below_drewN))⟩
           · rw [if_neg c23] at H
             have c23b0 : decide (a0_2 ≤ 3) = false := decide_eq_false c23
             clear c23
             obtain rfl := Option.some.inj H
             obtain ⟨hcz35_0, hcz35_1, hcz35_2, hcz35_3, hcz35_4, hcz35_5, hfz35_0, hfz35_1, hfz35_2, hfz35_3, hfz35_4, hfz35_5⟩ := cz6_ BK346.out
             go_wp2_with (first | ((with_reducible refine gate_callee (f := 58) rfl ?_); refine goesL_ (some 37) rfl rfl Tryz.func58 (by kernel_rfl) rfl #[.string a0_0, .int .u8 33, .int .u8 126, .int .i64 1, .int .i64 64] rfl (by ((try simp only [List.map_toArray, List.map_cons, List.map_nil]); (rfl))) ?_; (with_reducible refine (wicketref11_bytes.calls kj11 a0_0 33 126 1 64 true _ A18.out).mono ?_); rintro e w' ⟨rfl, ⟨nd, rfl⟩⟩; refine ⟨_, rfl, ?_⟩) | (go_at_call 58; (with_reducible refine (wicketref11_bytes.calls kj11 a0_1 32 126 0 256 true _ A20.out).mono ?_); rintro e w' ⟨rfl, ⟨nd, rfl⟩⟩))
             go_ret
             exact ⟨by (rfl), by (repeat (with_reducible first | exact HB.out | apply pw_below_drewN))⟩
         · rw [if_neg c22] at H
           have c22b0 : decide (1 ≤ a0_2) = false := decide_eq_false c22
           clear c22
           obtain rfl := Option.some.inj H
           obtain ⟨hcz36_0, hcz36_1, hcz36_2, hcz36_3, hcz36_4, hcz36_5, hfz36_0, hfz36_1, hfz36_2, hfz36_3, hfz36_4, hfz36_5⟩ := cz6_ BK346.out
           go_wp2_with (first | ((with_reducible refine gate_callee (f := 58) rfl ?_); refine goesL_ (some 37) rfl rfl Tryz.func58 (by kernel_rfl) rfl #[.string a0_0, .int .u8 33, .int .u8 126, .int .i64 1, .int .i64 64] rfl (by ((try simp only [List.map_toArray, List.map_cons, List.map_nil]); (rfl))) ?_; (with_reducible refine (wicketref11_bytes.calls kj11 a0_0 33 126 1 64 true _ A18.out).mono ?_); rintro e w' ⟨rfl, ⟨nd, rfl⟩⟩; refine ⟨_, rfl, ?_⟩) | (go_at_call 58; (with_reducible refine (wicketref11_bytes.calls kj11 a0_1 32 126 0 256 true _ A20.out).mono ?_); rintro e w' ⟨rfl, ⟨nd, rfl⟩⟩))
           go_ret
           exact ⟨by (rfl), by (repeat (with_reducible first | exact HB.out | apply pw_below_drewN))⟩
       · replace c21 := Bool.eq_false_iff.mpr c21
         subst c21
         have H1 : (some 111) = some r := by rw [if_neg (show ¬ (false = true) by decide)] at H; exact H
         clear H
         have H := H1
         clear H1
         obtain rfl := Option.some.inj H
         obtain ⟨hcz37_0, hcz37_1, hcz37_2, hcz37_3, hcz37_4, hcz37_5, hfz37_0, hfz37_1, hfz37_2, hfz37_3, hfz37_4, hfz37_5⟩ := cz6_ BK346.out
         go_wp2_with (first | ((with_reducible refine gate_callee (f := 58) rfl ?_); refine goesL_ (some 37) rfl rfl Tryz.func58 (by kernel_rfl) rfl #[.string a0_0, .int .u8 33, .int .u8 126, .int .i64 1, .int .i64 64] rfl (by ((try simp only [List.map_toArray, List.map_cons, List.map_nil]); (rfl))) ?_; (with_reducible refine (wicketref11_bytes.calls kj11 a0_0 33 126 1 64 true _ A18.out).mono ?_); rintro e w' ⟨rfl, ⟨nd, rfl⟩⟩; refine ⟨_, rfl, ?_⟩) | (go_at_call 58; (with_reducible refine (wicketref11_bytes.calls kj11 a0_1 32 126 0 256 false _ A20.out).mono ?_); rintro e w' ⟨rfl, ⟨nd, rfl⟩⟩))
         go_ret
         exact ⟨by (rfl), by (repeat (with_reducible first | exact HB.out | apply pw_below_drewN))⟩
     · replace c19 := Bool.eq_false_iff.mpr c19
       subst c19
       have H1 : (some 111) = some r := by rw [if_neg (show ¬ (false = true) by decide)] at H; exact H
       clear H
       have H := H1
       clear H1
       obtain rfl := Option.some.inj H
       obtain ⟨hcz38_0, hcz38_1, hcz38_2, hcz38_3, hcz38_4, hcz38_5, hfz38_0, hfz38_1, hfz38_2, hfz38_3, hfz38_4, hfz38_5⟩ := cz6_ BK346.out
       go_wp2_with (first | ((with_reducible refine gate_callee (f := 58) rfl ?_); refine goesL_ (some 37) rfl rfl Tryz.func58 (by kernel_rfl) rfl #[.string a0_0, .int .u8 33, .int .u8 126, .int .i64 1, .int .i64 64] rfl (by ((try simp only [List.map_toArray, List.map_cons, List.map_nil]); (rfl))) ?_; (with_reducible refine (wicketref11_bytes.calls kj11 a0_0 33 126 1 64 false _ A18.out).mono ?_); rintro e w' ⟨rfl, ⟨nd, rfl⟩⟩; refine ⟨_, rfl, ?_⟩))
       go_ret
       exact ⟨by (rfl), by (repeat (with_reducible first | exact HB.out | apply pw_below_drewN))⟩
end Go.Proofs.YtmimipgmhgalaaaGreatDoor.PAll
end
section
namespace Go.Proofs.YtmimipgmhgalaaaGreatDoor.Pure
open Go.RowKit Go.Proofs.YtmimipgmhgalaaaGreatDoorW.PrintWords Go.Proofs.YtmimipgmhgalaaaGreatDoor.Plain Go.Proofs.YtmimipgmhgalaaaGreatDoor.Spec Go.Proofs.YtmimipgmhgalaaaGreatDoor.PAll
set_option linter.unusedSimpArgs false
set_option linter.unusedVariables false
theorem bs_app (a b : List UInt8) : bs a ++ bs b = bs (a ++ b) := by
  have : (bs a ++ bs b).data.toList = (bs (a ++ b)).data.toList := by simp [bs]
  rw [← bs_of (bs a ++ bs b), this, bs_of]
theorem bytes_loop (s : ByteArray) (hs : s.size ≤ 140737488355328) (lo up least most : Nat) : ∀ (m i : Nat), i + m = s.size →
    Ev (fun k => wicketref11_bytes.l0 k s (lo : Int) (up : Int) (least : Int) (most : Int) (i : Int)) ((s.data.toList.drop i).all (fun c => decide (lo ≤ c.toNat) && decide (c.toNat ≤ up)) && (decide (least ≤ s.size) && decide (s.size ≤ most))) := by
  intro m
  induction m with
  | zero =>
    intro i hi
    rw [List.drop_eq_nil_of_le (by rw [data_len]; omega), List.all_nil, Bool.true_and]
    by_cases h : least ≤ s.size
    · refine Ev.step (f := fun _ => some (decide ((s.size : Int) ≤ (most : Int)))) (fun k => ?_) (Ev.eq (Ev.now _) ?_)
      · simp only [wicketref11_bytes.l0]; rw [if_neg (by omega), if_pos (by omega)]
      · rw [decide_eq_true h, Bool.true_and, decide_eq_decide]; omega
    · refine Ev.step (f := fun _ => some false) (fun k => ?_) (Ev.eq (Ev.now _) ?_)
      · simp only [wicketref11_bytes.l0]; rw [if_neg (by omega), if_neg (by omega)]
      · rw [decide_eq_false h, Bool.false_and]
  | succ m ih =>
    intro i hi
    have hlt : i < s.size := by omega
    have hbt := btC s i hlt
    rw [drop_at s i hlt, List.all_cons]
    have ih1 := ih (i + 1) (by omega)
    generalize s[i] = c at *
    by_cases h1 : lo ≤ c.toNat
    · by_cases h2 : c.toNat ≤ up
      · rw [decide_eq_true h1, decide_eq_true h2, Bool.true_and, Bool.true_and]
        refine Ev.step (fun k => ?_) ih1
        simp only [wicketref11_bytes.l0]
        rw [if_pos (by omega), if_pos (by omega), hbt, if_neg (by omega), if_neg (by omega), w64 (by omega) (by omega)]
        rfl
      · rw [decide_eq_false h2, Bool.and_false, Bool.false_and, Bool.false_and]
        refine Ev.step (f := fun _ => some false) (fun k => ?_) (Ev.now _)
        simp only [wicketref11_bytes.l0]
        rw [if_pos (by omega), if_pos (by omega), hbt, if_neg (by omega), if_pos (by omega)]
    · rw [decide_eq_false h1, Bool.false_and, Bool.false_and, Bool.false_and]
      refine Ev.step (f := fun _ => some false) (fun k => ?_) (Ev.now _)
      simp only [wicketref11_bytes.l0]
      rw [if_pos (by omega), if_pos (by omega), hbt, if_pos (by omega)]
theorem bytes_ev (s : ByteArray) (hs : s.size ≤ 140737488355328) (least most lo : Nat) : Ev (fun k => wicketref11_bytes.f k s (lo : Int) 126 (least : Int) (most : Int)) (withinL s.data.toList least most lo) := by
  unfold wicketref11_bytes.f withinL
  have := bytes_loop s hs lo 126 least most s.size 0 (by omega)
  rw [data_len]
  exact this
theorem texts_loop (a b : List ByteArray) (ha : a.length ≤ 140737488355328) (hab : a.length = b.length) : ∀ (m i : Nat), i + m = a.length →
    Ev (fun k => wicketref11_texts.l0 k a b (i : Int)) (decide (a.drop i = b.drop i)) := by
  intro m
  induction m with
  | zero =>
    intro i hi
    refine Ev.step (f := fun _ => some true) (fun k => ?_) (Ev.eq (Ev.now _) ?_)
    · simp only [wicketref11_texts.l0]; rw [if_neg (by omega)]
    · rw [List.drop_eq_nil_of_le (by omega), List.drop_eq_nil_of_le (by omega)]; rfl
  | succ m ih =>
    intro i hi
    have hlt : i < a.length := by omega
    have hlb : i < b.length := by omega
    rw [drop_cons a i hlt, drop_cons b i hlb]
    by_cases h : a[i] = b[i]
    · refine Ev.step (fun k => ?_) (Ev.eq (ih (i + 1) (by omega)) ?_)
      · simp only [wicketref11_texts.l0]
        rw [if_pos (by omega), if_pos (by omega), if_pos (by omega), rdOf_get _ _ _ hlt, rdOf_get _ _ _ hlb, if_pos (by rw [h]), w64 (by omega) (by omega)]
        rfl
      · rw [decide_eq_decide, List.cons.injEq]
        exact ⟨fun e => ⟨h, e⟩, fun e => e.2⟩
    · refine Ev.step (f := fun _ => some false) (fun k => ?_) (Ev.eq (Ev.now _) ?_)
      · simp only [wicketref11_texts.l0]
        rw [if_pos (by omega), if_pos (by omega), if_pos (by omega), rdOf_get _ _ _ hlt, rdOf_get _ _ _ hlb, if_neg (fun e => h (by rw [← bs_of a[i], ← bs_of b[i], ← toList_data, ← toList_data, e]))]
      · rw [decide_eq_false (fun e => h (List.cons.inj e).1)]
theorem texts_ev (a b : List ByteArray) (ha : a.length ≤ 140737488355328) : Ev (fun k => wicketref11_texts.f k a b) (decide (a = b)) := by
  unfold wicketref11_texts.f
  by_cases h : a.length = b.length
  · refine Ev.pos (by omega) ?_
    exact texts_loop a b ha h a.length 0 (by omega)
  · refine Ev.neg (by omega) (Ev.eq (Ev.now _) ?_)
    rw [decide_eq_false (fun e => h (by rw [e]))]
theorem joined_tail (l : List ByteArray) (hn : l.length ≤ 140737488355328) : ∀ (m i : Nat) (a : List UInt8), i + m = l.length → 0 < i →
    a.length + (Lib.joinTail [32] ((l.drop i).map (·.data.toList))).length ≤ 140737488355328 →
    Ev (fun k => wicketref11_Joined.l0 k l (bs a) (i : Int)) (bs (a ++ Lib.joinTail [32] ((l.drop i).map (·.data.toList)))) := by
  intro m
  induction m with
  | zero =>
    intro i a hi h0 hl
    refine Ev.step (f := fun _ => some (bs a)) (fun k => ?_) (Ev.eq (Ev.now _) ?_)
    · simp only [wicketref11_Joined.l0]; rw [if_neg (by omega)]
    · rw [List.drop_eq_nil_of_le (by omega)]; simp [Lib.joinTail]
  | succ m ih =>
    intro i a hi h0 hl
    have hlt : i < l.length := by omega
    have e : Lib.joinTail [32] ((l.drop i).map (·.data.toList)) = [32] ++ l[i].data.toList ++ Lib.joinTail [32] ((l.drop (i + 1)).map (·.data.toList)) := by
      rw [drop_cons l i hlt, List.map_cons]
      unfold Lib.joinTail
      rw [List.map_cons, List.flatten_cons]
    rw [e] at hl ⊢
    simp only [List.length_append, List.length_cons, List.length_nil] at hl
    have hsz : l[i].size = l[i].data.toList.length := (data_len _).symm
    refine Ev.step (fun k => ?_) (Ev.eq (ih (i + 1) (a ++ ([32] ++ l[i].data.toList)) (by omega) (by omega) (by simp only [List.length_append, List.length_cons, List.length_nil]; omega)) ?_)
    · simp only [wicketref11_Joined.l0]
      rw [if_pos (by omega), if_pos (by omega), if_pos (by rw [bs_size]; omega), if_pos (by omega), rdOf_get _ _ _ hlt]
      have e2 : (bs a ++ (⟨#[32]⟩ : ByteArray)) = bs (a ++ [32]) := bs_app a [32]
      rw [e2, if_pos (by rw [bs_size]; simp only [List.length_append, List.length_cons, List.length_nil]; omega), w64 (by omega) (by omega)]
      conv => lhs; rw [← bs_of l[i], bs_app, List.append_assoc]
      rfl
    · congr 1; simp
theorem joined_ev (l : List ByteArray) (hn : l.length ≤ 140737488355328) (hj : (joinedL l).length ≤ 140737488355328) : Ev (fun k => wicketref11_Joined.f k l) (bs (joinedL l)) := by
  unfold wicketref11_Joined.f
  cases l with
  | nil =>
    refine Ev.step (f := fun _ => some (⟨#[]⟩ : ByteArray)) (fun k => ?_) (Ev.eq (Ev.now _) rfl)
    simp only [wicketref11_Joined.l0]; rw [if_neg (by simp)]
  | cons x r =>
    have e : joinedL (x :: r) = x.data.toList ++ Lib.joinTail [32] (((x :: r).drop 1).map (·.data.toList)) := by
      unfold joinedL; rw [List.map_cons, Lib.join_cons]; rfl
    rw [e] at hj ⊢
    simp only [List.length_append] at hj
    have hsz : x.size = x.data.toList.length := (data_len _).symm
    refine Ev.step (fun k => ?_) (joined_tail (x :: r) hn r.length 1 x.data.toList (by simp; omega) (by omega) hj)
    simp only [wicketref11_Joined.l0]
    rw [if_pos (by first | (simp; done) | (simp; omega)), if_neg (by omega), if_pos (by omega), show rdOf ByteArray.empty (x :: r) (0 : Int) = x from rfl, if_pos (by rw [show (⟨#[]⟩ : ByteArray).size = 0 from rfl]; omega), w64 (by omega) (by omega), show ((⟨#[]⟩ : ByteArray) ++ x) = bs x.data.toList from by
      have := bs_app [] x.data.toList
      rw [bs_of, List.nil_append] at this
      exact this]
    rfl
end Go.Proofs.YtmimipgmhgalaaaGreatDoor.Pure
end
section
namespace Go.Proofs.YtmimipgmhgalaaaGreatDoor.Pure
open Go.RowKit Go.Proofs.YtmimipgmhgalaaaGreatDoorW.PrintWords Go.Proofs.YtmimipgmhgalaaaGreatDoor.Plain Go.Proofs.YtmimipgmhgalaaaGreatDoor.Spec Go.Proofs.YtmimipgmhgalaaaGreatDoor.PAll
set_option linter.unusedSimpArgs false
set_option linter.unusedVariables false
theorem letter_eq (c : UInt8) : wicketref03_Letter.f (c.toNat : Int) = some (letterB c) := by
  unfold wicketref03_Letter.f letterB
  by_cases h1 : (c.toNat : Int) = 33
  · rw [if_pos h1, decide_eq_true (by omega)]
  · rw [if_neg h1]
    by_cases h2 : (c.toNat : Int) ≥ 35
    · rw [if_pos h2]
      by_cases h3 : (c.toNat : Int) ≤ 91
      · rw [if_pos h3, decide_eq_true (by omega)]
      · rw [if_neg h3]
        by_cases h4 : (c.toNat : Int) ≥ 93
        · rw [if_pos h4]
          congr 1
          rw [decide_eq_decide]
          omega
        · rw [if_neg h4, decide_eq_false (by omega)]
    · rw [if_neg h2, if_neg (by omega), decide_eq_false (by omega)]
theorem put_done (L : List (List UInt8)) (s : List UInt8) (hL : L.length ≤ 20000) : ∀ (m i : Nat) (out : List (List UInt8)), i + m = L.length → s ∉ L.drop i → out.length ≤ 30000 + i →
    Ev (fun k => wicketref03_put.l0 k (L.map bs) (bs s) (out.map bs) true (i : Int)) ((out ++ L.drop i).map bs) := by
  have hal : (L.map bs).length = L.length := List.length_map ..
  intro m
  induction m with
  | zero =>
    intro i out hi hs ho
    refine Ev.step (f := fun _ => some (out.map bs)) (fun k => ?_) (Ev.eq (Ev.now _) ?_)
    · simp only [wicketref03_put.l0]
      rw [if_neg (by omega), if_pos trivial]
    · rw [List.drop_eq_nil_of_le (by omega), List.append_nil]
  | succ m ih =>
    intro i out hi hs ho
    have hlt : i < L.length := by omega
    have hol : (out.map bs).length = out.length := List.length_map ..
    have hrd := rd_bs L i hlt
    rw [drop_cons L i hlt] at hs ⊢
    simp only [List.mem_cons, not_or] at hs
    have key := ih (i + 1) (out ++ [L[i]]) (by omega) hs.2 (by rw [List.length_append, List.length_singleton]; omega)
    rw [List.append_assoc, List.singleton_append] at key
    generalize L[i] = x at *
    have hne : ¬ (bs x).toList = (bs s).toList := by rw [bs_toList, bs_toList]; exact fun e => hs.1 e.symm
    refine Ev.step (fun k => ?_) key
    simp only [wicketref03_put.l0]
    rw [if_pos (by omega), if_pos (by omega), hrd, if_neg hne, if_pos trivial, if_pos (by omega), w64 (by omega) (by omega), List.map_append]
    rfl
theorem put_find (L : List (List UInt8)) (s : List UInt8) (hL : L.length ≤ 20000) (hr : Rising L) : ∀ (m i : Nat), i + m = L.length →
    Ev (fun k => wicketref03_put.l0 k (L.map bs) (bs s) ((L.take i).map bs) false (i : Int)) ((L.take i ++ putL (L.drop i) s).map bs) := by
  have hal : (L.map bs).length = L.length := List.length_map ..
  intro m
  induction m with
  | zero =>
    intro i hi
    have hol : ((L.take i).map bs).length = i := by rw [List.length_map, List.length_take]; omega
    refine Ev.step (f := fun _ => some ((L.take i).map bs ++ [bs s])) (fun k => ?_) (Ev.eq (Ev.now _) ?_)
    · simp only [wicketref03_put.l0]
      rw [if_neg (by omega), if_neg (by simp), if_pos (by omega)]
    · rw [List.drop_eq_nil_of_le (by omega), List.map_append]; rfl
  | succ m ih =>
    intro i hi
    have hlt : i < L.length := by omega
    have hol : ((L.take i).map bs).length = i := by rw [List.length_map, List.length_take]; omega
    have hrd := rd_bs L i hlt
    have htk := List.take_succ_eq_append_getElem hlt
    have hdr := drop_cons L i hlt
    have hri : Rising (L.drop i) := List.Pairwise.sublist (List.drop_sublist i L) hr
    rw [hdr] at hri
    have hr1 := List.pairwise_cons.1 hri
    have key := ih (i + 1) (by omega)
    have hdone := put_done L s hL m (i + 1) (L.take i ++ [s, L[i]]) (by omega)
    have hwhole : L.take i ++ L.drop i = L := List.take_append_drop i L
    rw [hdr] at hwhole ⊢
    rw [htk] at key
    generalize L[i] = x at *
    unfold putL
    by_cases he : x = s
    · rw [if_pos he, hwhole]
      refine Ev.step (f := fun _ => some (L.map bs)) (fun k => ?_) (Ev.now _)
      simp only [wicketref03_put.l0]
      rw [if_pos (by omega), if_pos (by omega), hrd, if_pos (by rw [he])]
    · rw [if_neg he]
      have hne : ¬ (bs x).toList = (bs s).toList := by rw [bs_toList, bs_toList]; exact he
      by_cases hlt2 : s < x
      · rw [if_pos hlt2]
        have hb : Op.bytesLess (bs s).toList (bs x).toList = true := by rw [bs_toList, bs_toList, Go.Proofs.bytesLess_eq]; exact decide_eq_true hlt2
        have hd := hdone (fun hm => List.lt_irrefl s (List.lt_trans hlt2 (hr1.1 s hm))) (by rw [List.length_append, List.length_take]; simp; omega)
        have e : L.take i ++ [s, x] ++ L.drop (i + 1) = L.take i ++ s :: x :: L.drop (i + 1) := by simp
        rw [e] at hd
        refine Ev.step (fun k => ?_) hd
        simp only [wicketref03_put.l0]
        rw [if_pos (by omega), if_pos (by omega), hrd, if_neg hne, if_neg (by simp), if_pos hb, if_pos (by omega), Option.bind_some, if_pos (by rw [List.length_append, List.length_singleton]; omega), w64 (by omega) (by omega)]
        simp only [List.map_append, List.append_assoc]
        rfl
      · rw [if_neg hlt2]
        have hb : ¬ Op.bytesLess (bs s).toList (bs x).toList = true := by rw [bs_toList, bs_toList, Go.Proofs.bytesLess_eq]; simpa using hlt2
        rw [List.append_assoc, List.singleton_append] at key
        refine Ev.step (fun k => ?_) key
        simp only [wicketref03_put.l0]
        rw [if_pos (by omega), if_pos (by omega), hrd, if_neg hne, if_neg (by simp), if_neg hb, if_pos (by omega), w64 (by omega) (by omega), List.map_append]
        rfl
theorem put_ev (L : List (List UInt8)) (s : List UInt8) (hL : L.length ≤ 20000) (hr : Rising L) : Ev (fun k => wicketref03_put.f k (L.map bs) (bs s)) ((putL L s).map bs) := by
  unfold wicketref03_put.f
  exact put_find L s hL hr L.length 0 (by omega)
theorem splitL_has (c : UInt8) : ∀ (l : List UInt8) (x : UInt8), x ∈ l → x ≠ c → ∃ p ∈ splitL c l, x ∈ p
  | y :: r, x, h, hx => by
    by_cases hy : y = c
    · subst hy
      rw [splitL_same]
      rcases List.mem_cons.1 h with rfl | h
      · exact absurd rfl hx
      · obtain ⟨p, hp, hm⟩ := splitL_has y r x h hx
        exact ⟨p, List.mem_cons_of_mem _ hp, hm⟩
    · obtain ⟨q, ps, hq⟩ : ∃ p ps, splitL c r = p :: ps := by
        cases hr : splitL c r with
        | nil => exact absurd hr (splitL_ne c r)
        | cons p ps => exact ⟨p, ps, rfl⟩
      rw [splitL_other c y r q ps hy hq]
      rcases List.mem_cons.1 h with rfl | h
      · exact ⟨_, List.mem_cons_self, List.mem_cons_self⟩
      · obtain ⟨p, hp, hm⟩ := splitL_has c r x h hx
        rw [hq] at hp
        rcases List.mem_cons.1 hp with rfl | hp
        · exact ⟨_, List.mem_cons_self, List.mem_cons_of_mem _ hm⟩
        · exact ⟨p, List.mem_cons_of_mem _ hp, hm⟩
def restS (l : List UInt8) (j : Nat) : List (List UInt8) := if j ≤ l.length then splitL 32 (l.drop j) else []
def finS (ps L : List (List UInt8)) : List (List UInt8) × Int := if ps.any badP = true then ([], 33) else if 32 < (ps.foldl putL L).length then ([], 32) else (ps.foldl putL L, 0)
theorem extractS (s : ByteArray) (a b : Nat) (h : b ≤ s.size) : (s.extract a b).data.toList = (s.data.toList.drop a).take (b - a) := by
  rw [ByteArray.data_extract, Array.toList_extract]
theorem btS (s : ByteArray) (i : Nat) (h : i < s.size) : bt s (i : Int) = (s[i].toNat : Int) := by
  unfold bt
  rw [dif_pos (by simpa using h)]
  rfl
theorem u8S (c : UInt8) (n : Nat) (h : c.toNat = n) : c = UInt8.ofNat n := by rw [← h, UInt8.ofNat_toNat]
theorem refscopes_loop (s : ByteArray) (hs : s.size ≤ 256) : ∀ (m a i : Nat) (L : List (List UInt8)), i + m = s.size + 1 → a ≤ i → (m = 0 → a = i) → L.length ≤ a → Rising L → (∀ x ∈ (s.data.toList.drop a).take (i - a), letterB x = true) →
    Ev (fun k => wicketref03_Scopes.l0 k s (L.map bs) (a : Int) (i : Int)) (resS (finS (restS s.data.toList a) L)) := by
  intro m
  induction m with
  | zero =>
    intro a i L hi hai h0 hL hr _
    have := h0 rfl
    subst this
    have hal : (L.map bs).length = L.length := List.length_map ..
    have hfin : restS s.data.toList a = [] := by unfold restS; rw [if_neg (by rw [data_len]; omega)]
    rw [hfin]
    unfold finS
    rw [List.any_nil, if_neg (by simp), List.foldl_nil]
    by_cases h32 : 32 < L.length
    · rw [if_pos h32]
      refine Ev.step (f := fun _ => some ([], 32)) (fun k => ?_) (Ev.eq (Ev.now _) rfl)
      simp only [wicketref03_Scopes.l0]
      rw [if_neg (by omega), if_pos (by omega)]
    · rw [if_neg h32]
      refine Ev.step (f := fun _ => some (L.map bs, 0)) (fun k => ?_) (Ev.eq (Ev.now _) rfl)
      simp only [wicketref03_Scopes.l0]
      rw [if_neg (by omega), if_neg (by omega)]
  | succ m ih =>
    intro a i L hi hai _ hL hr hlet
    by_cases hgo : ∃ h : i < s.size, s[i] ≠ 32
    · obtain ⟨hlt, hne⟩ := hgo
      have hbt := btS s i hlt
      have hne' : ((s[i].toNat : Int) != 32) = true := by
        rw [bne_iff_ne]; exact fun e => hne (u8S _ 32 (by omega))
      have hlen : i - a < (s.data.toList.drop a).length := by rw [List.length_drop, data_len]; omega
      have hget : (s.data.toList.drop a)[i - a] = s[i] := by
        rw [List.getElem_drop]
        have : ∀ (j : Nat) (h : j < s.data.toList.length), j = i → s.data.toList[j] = s[i] := by rintro j h rfl; rfl
        exact this _ _ (by omega)
      have hle := letter_eq s[i]
      refine Ev.step (f := fun k => wicketref03_Scopes.j1 k s (L.map bs) (a : Int) (i : Int) true) (fun k => ?_) ?_
      · simp only [wicketref03_Scopes.l0]
        rw [if_pos (by omega), if_pos (by omega), if_pos (by omega), hbt, hne']
      · cases hc : letterB s[i] with
        | false =>
          rw [hc] at hle
          have hbad : (restS s.data.toList a).any badP = true := by
            unfold restS
            rw [if_pos (by rw [data_len]; omega)]
            obtain ⟨p, hp, hm⟩ := splitL_has 32 (s.data.toList.drop a) s[i] (by rw [← hget]; exact List.getElem_mem hlen) hne
            rw [List.any_eq_true]
            refine ⟨p, hp, ?_⟩
            unfold badP
            rw [Bool.or_eq_true, List.any_eq_true]
            exact .inr ⟨_, hm, by rw [hc]; rfl⟩
          unfold finS
          rw [if_pos hbad]
          refine Ev.step (f := fun _ => some ([], 33)) (fun k => ?_) (Ev.eq (Ev.now _) rfl)
          simp only [wicketref03_Scopes.j1, if_true]
          rw [if_pos (by omega), if_pos (by omega), hbt, hle, Option.bind_some, if_neg (by simp)]
        | true =>
          rw [hc] at hle
          refine Ev.step (fun k => ?_) (ih a (i + 1) L (by omega) (by omega) (by omega) hL hr ?_)
          · simp only [wicketref03_Scopes.j1, if_true]
            rw [if_pos (by omega), if_pos (by omega), hbt, hle, Option.bind_some, if_pos rfl, w64 (by omega) (by omega)]
            rfl
          · rw [show i + 1 - a = (i - a) + 1 by omega, List.take_succ_eq_append_getElem hlen, hget]
            intro x hx
            rcases List.mem_append.1 hx with hx | hx
            · exact hlet x hx
            · rw [List.mem_singleton] at hx; rw [hx]; exact hc
    · have h32 : 32 ∉ (s.data.toList.drop a).take (i - a) := fun hm => by have := hlet 32 hm; rw [letter_space] at this; cases this
      have hrest : restS s.data.toList a = (s.data.toList.drop a).take (i - a) :: restS s.data.toList (i + 1) := by
        unfold restS
        rw [data_len, if_pos (by omega)]
        by_cases hlt : i < s.size
        · have h32i : s[i] = 32 := Classical.byContradiction fun e => hgo ⟨hlt, e⟩
          rw [if_pos (by omega)]
          have hcut : s.data.toList.drop a = (s.data.toList.drop a).take (i - a) ++ 32 :: s.data.toList.drop (i + 1) := by
            conv => lhs; rw [← List.take_append_drop (i - a) (s.data.toList.drop a)]
            congr 1
            rw [List.drop_drop, show a + (i - a) = i by omega, drop_at s i hlt, h32i]
          conv => lhs; rw [hcut]
          rw [splitL_hit 32 _ _ h32]
        · rw [if_neg (by omega)]
          have hz : (s.data.toList.drop a).take (i - a) = s.data.toList.drop a := List.take_of_length_le (by rw [List.length_drop, data_len]; omega)
          rw [hz] at h32 ⊢
          exact splitL_whole 32 _ h32
      have hplen : ((s.data.toList.drop a).take (i - a)).length = i - a := by rw [List.length_take, List.length_drop, data_len]; omega
      rw [hrest]
      have hl0 : ∀ r, Ev (fun k => wicketref03_Scopes.j1 k s (L.map bs) (a : Int) (i : Int) false) r → Ev (fun k => wicketref03_Scopes.l0 k s (L.map bs) (a : Int) (i : Int)) r := by
        refine fun r h => Ev.step (fun k => ?_) h
        simp only [wicketref03_Scopes.l0]
        rw [if_pos (by omega)]
        by_cases hlt : i < s.size
        · have h32i : s[i] = 32 := Classical.byContradiction fun e => hgo ⟨hlt, e⟩
          have hbt := btS s i hlt
          rw [if_pos (by omega), if_pos (by omega), hbt, h32i]
          rfl
        · rw [if_neg (by omega)]
      refine hl0 _ ?_
      have hx : bs ((s.data.toList.drop a).take (i - a)) = s.extract a i := by rw [← extractS s a i (by omega), bs_of]
      have hw : wrap64 ((i : Int) + 1) = ((i + 1 : Nat) : Int) := by rw [w64 (by omega) (by omega)]; rfl
      generalize hp : (s.data.toList.drop a).take (i - a) = p at *
      unfold finS
      rw [List.any_cons]
      by_cases h1 : p = []
      · have hbp : badP p = true := by rw [h1]; rfl
        rw [hbp, Bool.true_or, if_pos rfl]
        rw [h1] at hplen
        simp only [List.length_nil] at hplen
        refine Ev.step (f := fun _ => some ([], 33)) (fun k => ?_) (Ev.eq (Ev.now _) rfl)
        simp only [wicketref03_Scopes.j1]
        rw [if_neg (by simp), if_pos (by omega)]
      · have hbp : badP p = false := by
          unfold badP
          rw [Bool.or_eq_false_iff]
          refine ⟨by cases p <;> simp_all, ?_⟩
          rw [List.any_eq_false]
          intro x hxm
          rw [hlet x hxm]
          simp
        rw [hbp, Bool.false_or, List.foldl_cons]
        have hpos : 0 < p.length := List.length_pos_iff.2 h1
        have hpl := putL_len p L
        refine Ev.step (f := fun k => (wicketref03_put.f k (L.map bs) (bs p)).bind fun t243 => (wicketref03_Scopes.l0 k s t243 ((i + 1 : Nat) : Int) ((i + 1 : Nat) : Int))) (fun k => ?_) ?_
        · simp only [wicketref03_Scopes.j1]
          rw [if_neg (by simp), if_neg (by omega), if_pos (by omega), if_pos (by omega), if_pos (by omega), hw, Int.toNat_natCast, Int.toNat_natCast, hx]
        · refine Ev.bind (put_ev L p (by omega) hr) ?_
          exact ih (i + 1) (i + 1) (putL L p) (by omega) (by omega) (fun _ => rfl) (by omega) (putL_rising p L hr) (by simp)
theorem refscopes_ev (s : ByteArray) : Ev (fun k => wicketref03_Scopes.f k s) (resS (scopesL s.data.toList)) := by
  unfold wicketref03_Scopes.f scopesL
  rw [data_len]
  by_cases h : 256 < s.size
  · rw [if_pos h]
    exact Ev.pos (by omega) (Ev.now _)
  · rw [if_neg h]
    refine Ev.neg (by omega) ?_
    by_cases h1 : s.data.toList = []
    · rw [if_pos h1]
      exact Ev.pos (by rw [toList_data]; exact h1) (Ev.now _)
    · rw [if_neg h1]
      refine Ev.neg (by rw [toList_data]; exact h1) ?_
      exact refscopes_loop s (by omega) (s.size + 1) 0 0 [] (by omega) (by omega) (by omega) (by simp) List.Pairwise.nil (by simp)
theorem scopesL_len (l : List UInt8) : (scopesL l).1.length ≤ 32 := by
  unfold scopesL
  split
  · simp
  · split
    · simp
    · split
      · simp
      · split
        · simp
        · simp; omega
end Go.Proofs.YtmimipgmhgalaaaGreatDoor.Pure
end
section
namespace Go.Proofs.YtmimipgmhgalaaaGreatDoor.Pure
open Go.RowKit Go.Proofs.YtmimipgmhgalaaaGreatDoorW.PrintWords Go.Proofs.YtmimipgmhgalaaaGreatDoor.Plain Go.Proofs.YtmimipgmhgalaaaGreatDoor.Spec Go.Proofs.YtmimipgmhgalaaaGreatDoor.PAll
set_option linter.unusedSimpArgs false
set_option linter.unusedVariables false
def urlR (c : ClT) : Bool := if c.pg = true then withinL c.u.data.toList 9 256 33 && Lib.hasPrefix c.u.data.toList httpsL else decide (c.u.data.toList = [])
def sixR (c : ClT) : Bool := if c.pg = true then decide (2 ≤ c.gr) && decide (c.s.data.toList ≠ []) else true
theorem url_ev (c : ClT) (hs : Small c) : Ev (fun k => wicketref11_url.f k c.i c.s c.gr c.pg c.u c.sc) (urlR c) := by
  unfold wicketref11_url.f urlR
  cases hp : c.pg with
  | false =>
    refine Ev.neg (by simp) (Ev.eq (Ev.now _) ?_)
    rw [if_neg (by simp), toList_data]
    cases c.u.data.toList <;> simp
  | true =>
    rw [if_pos rfl]
    refine Ev.pos rfl (Ev.bind (bytes_ev c.u hs.u 9 256 33) ?_)
    cases e : withinL c.u.data.toList 9 256 33 with
    | false => exact Ev.neg (by simp) (Ev.eq (Ev.now _) (by simp))
    | true =>
      have hl : 9 ≤ c.u.size := by
        have := e
        unfold withinL at this
        simp only [Bool.and_eq_true, decide_eq_true_eq, data_len] at this
        exact this.2.1
      refine Ev.pos rfl (Ev.pos (by omega) (Ev.pos (by omega) (Ev.eq (Ev.now _) ?_)))
      rw [toList_data, extractS _ _ _ (by omega), Bool.true_and, List.drop_zero]
      unfold Lib.hasPrefix httpsL
      rw [Bool.eq_iff_iff, beq_iff_eq, List.isPrefixOf_iff_prefix, List.prefix_iff_eq_take]
      exact ⟨fun e => e.symm, fun e => e.symm⟩
theorem bits_two (g : Int) (h1 : 1 ≤ g) (h3 : g ≤ 3) : decide (Go.bits .and .i64 g 2 ≠ 0) = decide (2 ≤ g) := by
  have : g = 1 ∨ g = 2 ∨ g = 3 := by omega
  rcases this with rfl | rfl | rfl <;> rfl
theorem check_same (c : ClT) : (withinL c.i.data.toList 1 64 33 && (withinL c.s.data.toList 0 256 32 && (decide (1 ≤ c.gr ∧ c.gr ≤ 3) && (sixR c && (urlR c && scopesOk c.sc))))) = checkL c := by
  unfold checkL sixR urlR urlL
  by_cases h : 1 ≤ c.gr ∧ c.gr ≤ 3
  · rw [bits_two c.gr h.1 h.2]
    cases c.pg <;> simp [Bool.and_assoc]
  · rw [decide_eq_false h]; simp
theorem refcheck_ev (c : ClT) (hs : Small c) : Ev (fun k => wicketref11_Check.f k c.i c.s c.gr c.pg c.u c.sc) (numC (checkL c)) := by
  have hj1 : ∀ b5 b6 : Bool, Ev (fun k => wicketref11_Check.j1 k b5 b6 c.i c.s c.gr c.pg c.u c.sc) (numC (withinL c.i.data.toList 1 64 33 && (withinL c.s.data.toList 0 256 32 && (decide (1 ≤ c.gr ∧ c.gr ≤ 3) && (b6 && (urlR c && b5)))))) := by
    intro b5 b6
    refine Ev.step (f := fun k => (wicketref11_bytes.f k c.i 33 126 1 64).bind fun t330 => if t330 = true then ((wicketref11_bytes.f k c.s 32 126 0 256).bind fun t331 => if t331 = true then (if c.gr ≥ 1 then (if c.gr ≤ 3 then (if b6 = true then ((wicketref11_url.f k c.i c.s c.gr c.pg c.u c.sc).bind fun t332 => if t332 = true then (if b5 = true then some 0 else some 111) else some 111) else some 111) else some 111) else some 111) else some 111) else some 111) (fun k => by simp only [wicketref11_Check.j1]) ?_
    refine Ev.bind (bytes_ev c.i hs.i 1 64 33) ?_
    cases withinL c.i.data.toList 1 64 33 with
    | false => exact Ev.neg (by simp) (Ev.eq (Ev.now _) (by simp [numC]))
    | true =>
      refine Ev.pos rfl (Ev.bind (bytes_ev c.s hs.s 0 256 32) ?_)
      cases withinL c.s.data.toList 0 256 32 with
      | false => exact Ev.neg (by simp) (Ev.eq (Ev.now _) (by simp [numC]))
      | true =>
        refine Ev.pos rfl ?_
        by_cases g1 : c.gr ≥ 1
        · by_cases g2 : c.gr ≤ 3
          · rw [decide_eq_true (show 1 ≤ c.gr ∧ c.gr ≤ 3 from ⟨g1, g2⟩)]
            refine Ev.pos g1 (Ev.pos g2 ?_)
            cases b6 with
            | false => exact Ev.neg (by simp) (Ev.eq (Ev.now _) (by simp [numC]))
            | true =>
              refine Ev.pos rfl (Ev.bind (url_ev c hs) ?_)
              cases urlR c with
              | false => exact Ev.neg (by simp) (Ev.eq (Ev.now _) (by simp [numC]))
              | true =>
                cases b5 with
                | false => exact Ev.pos rfl (Ev.neg (by simp) (Ev.eq (Ev.now _) (by simp [numC])))
                | true => exact Ev.pos rfl (Ev.pos rfl (Ev.eq (Ev.now _) (by simp [numC])))
          · exact Ev.pos g1 (Ev.neg g2 (Ev.eq (Ev.now _) (by rw [decide_eq_false (by omega)]; simp [numC])))
        · exact Ev.neg g1 (Ev.eq (Ev.now _) (by rw [decide_eq_false (by omega)]; simp [numC]))
  have hj0 : ∀ b5 : Bool, Ev (fun k => wicketref11_Check.j0 k b5 c.i c.s c.gr c.pg c.u c.sc) (numC (withinL c.i.data.toList 1 64 33 && (withinL c.s.data.toList 0 256 32 && (decide (1 ≤ c.gr ∧ c.gr ≤ 3) && (sixR c && (urlR c && b5)))))) := by
    intro b5
    refine Ev.step (f := fun k => if c.pg = true then (if c.gr ≥ 2 then wicketref11_Check.j1 k b5 (c.s.toList != []) c.i c.s c.gr c.pg c.u c.sc else wicketref11_Check.j1 k b5 false c.i c.s c.gr c.pg c.u c.sc) else wicketref11_Check.j1 k b5 true c.i c.s c.gr c.pg c.u c.sc) (fun k => by simp only [wicketref11_Check.j0]) ?_
    cases hp : c.pg with
    | false =>
      refine Ev.neg (by simp) ?_
      have := hj1 b5 true
      rw [hp] at this
      exact Ev.eq this (by unfold sixR; rw [hp]; simp)
    | true =>
      refine Ev.pos rfl ?_
      by_cases g : c.gr ≥ 2
      · have := hj1 b5 (c.s.toList != [])
        rw [hp] at this
        refine Ev.pos g (Ev.eq this ?_)
        unfold sixR
        rw [if_pos hp, toList_data, decide_eq_true (show 2 ≤ c.gr from g)]
        rw [show (c.s.data.toList != ([] : List UInt8)) = (true && decide (c.s.data.toList ≠ [])) from by cases c.s.data.toList <;> simp [bne]]
      · have := hj1 b5 false
        rw [hp] at this
        refine Ev.neg g (Ev.eq this ?_)
        unfold sixR
        rw [if_pos hp, decide_eq_false (show ¬2 ≤ c.gr from g)]
        simp
  unfold wicketref11_Check.f
  refine Ev.bind (joined_ev c.sc hs.n hs.j) (Ev.bind (refscopes_ev _) ?_)
  rw [bs_data, ← check_same c]
  unfold scopesOk
  by_cases h0 : (scopesL (joinedL c.sc)).2 = 0
  · refine Ev.pos h0 (Ev.bind (texts_ev _ _ ?_) ?_)
    · show ((scopesL (joinedL c.sc)).1.map bs).length ≤ _
      rw [List.length_map]
      have := scopesL_len (joinedL c.sc)
      omega
    · rw [decide_eq_true h0, Bool.true_and]
      exact hj0 _
  · refine Ev.neg h0 ?_
    rw [decide_eq_false h0, Bool.false_and]
    exact hj0 _
end Go.Proofs.YtmimipgmhgalaaaGreatDoor.Pure
end
section
namespace Go.Proofs.YtmimipgmhgalaaaGreatDoor.Spec
open Go.RowKit Go.Proofs.YtmimipgmhgalaaaGreatDoorW.PrintWords Go.Proofs.YtmimipgmhgalaaaGreatDoor.Plain Go.Proofs.YtmimipgmhgalaaaGreatDoor.PAll Go.Proofs.YtmimipgmhgalaaaGreatDoor.Pure
set_option linter.unusedSimpArgs false
set_option linter.unusedVariables false
def memB (x : ByteArray) : List ByteArray → Bool
  | [] => false
  | y :: r => decide (x = y) || memB x r
theorem memB_iff (x : ByteArray) : ∀ l, memB x l = true ↔ x ∈ l
  | [] => by simp [memB]
  | y :: r => by
    unfold memB
    rw [Bool.or_eq_true, decide_eq_true_eq, memB_iff x r, List.mem_cons]
def refOkB (l : List S68) : Bool := l.all (fun p => memB p.f0 namesL) && (namesL.all (fun n => decide (countV n l ≤ 1)) && (decide ((scopesL (lastV nScope l ⟨#[]⟩).data.toList).2 = 0) && ((decide ((lastV nPing l ⟨#[]⟩).toList = []) || decide ((lastV nPing l ⟨#[]⟩).toList = [121, 101, 115])) && checkL (refC l))))
theorem refOkB_iff (l : List S68) : refOkB l = true ↔ refOk l := by
  unfold refOkB refOk
  simp only [Bool.and_eq_true, Bool.or_eq_true, decide_eq_true_eq, List.all_eq_true, memB_iff]
def refLineS (s : List UInt8) : ClT × Bool := if (parse s).2.1 = 0 ∧ refOkB ((parse s).1.map mk34) = true then (refC ((parse s).1.map mk34), true) else (zC, false)
theorem foldO_spec (name : ByteArray) : ∀ (l : List S68) (v : ByteArray) (n : Nat), foldO name l v n = if n + countV name l > 1 then (⟨#[]⟩, false, 34) else (lastV name l v, (lastV name l v).toList != [], 0)
  | [], v, n => by simp [foldO, countV, lastV]
  | p :: r, v, n => by
    unfold foldO countV lastV
    by_cases h : p.f0 = name
    · rw [if_pos (by rw [h]), if_pos h, if_pos h, foldO_spec name r, show n + 1 + countV name r = n + (countV name r + 1) by omega]
    · rw [if_neg (fun e => h (toList_inj e)), if_neg h, if_neg h, foldO_spec name r]
theorem to61_34 (l : List (ByteArray × ByteArray)) : l.map mk61 = (l.map mk34).map to61 := by rw [List.map_map]; rfl
theorem refone (l : List S68) (hl : l.length ≤ 64) (n : ByteArray) : Ev (fun k => wicketref03_One.f k (l.map to61) n) (if countV n l > 1 then (⟨#[]⟩, false, 34) else (lastV n l ⟨#[]⟩, (lastV n l ⟨#[]⟩).toList != [], 0)) := by
  have h := refone_ev l (by omega) n l.length 0 0 ⟨#[]⟩ (by omega) (Nat.le_refl _)
  rw [List.drop_zero, foldO_spec, Nat.zero_add] at h
  unfold wicketref03_One.f
  exact h
theorem refgrants_loop (L : List ByteArray) (hL : L.length ≤ 32) : ∀ (m i : Nat) (n : Int), i + m = L.length → 0 ≤ n → n ≤ 2 * i → Ev (fun k => wicketref11_grants.l0 k n (i : Int) L) (grSum (L.drop i) n) := by
  intro m
  induction m with
  | zero =>
    intro i n hi h0 h1
    rw [List.drop_eq_nil_of_le (by omega)]
    refine Ev.step (f := fun _ => some n) (fun k => ?_) (Ev.now _)
    simp only [wicketref11_grants.l0]
    rw [if_neg (by omega)]
  | succ m ih =>
    intro i n hi h0 h1
    have hlt : i < L.length := by omega
    have hrd := rdOf_get ByteArray.empty L i hlt
    rw [drop_cons L i hlt]
    unfold grSum
    generalize L[i] = x at *
    by_cases e1 : x.toList = [100, 101, 118, 105, 99, 101]
    · rw [if_pos e1]
      refine Ev.step (fun k => ?_) (ih (i + 1) (n + 1) (by omega) (by omega) (by omega))
      simp only [wicketref11_grants.l0]
      rw [if_pos (by omega), if_pos (by omega), hrd, if_pos e1, w64 (by omega) (by omega), w64 (by omega) (by omega)]
      rfl
    · rw [if_neg e1]
      by_cases e2 : x.toList = [99, 105, 98, 97]
      · rw [if_pos e2]
        refine Ev.step (fun k => ?_) (ih (i + 1) (n + 2) (by omega) (by omega) (by omega))
        simp only [wicketref11_grants.l0]
        rw [if_pos (by omega), if_pos (by omega), hrd, if_neg e1, if_pos e2, w64 (by omega) (by omega), w64 (by omega) (by omega)]
        rfl
      · rw [if_neg e2]
        refine Ev.step (f := fun _ => some 0) (fun k => ?_) (Ev.now _)
        simp only [wicketref11_grants.l0]
        rw [if_pos (by omega), if_pos (by omega), hrd, if_neg e1, if_neg e2]
theorem refgrants (v : ByteArray) : Ev (fun k => wicketref11_grants.f k v) (grR v) := by
  unfold wicketref11_grants.f grR
  refine Ev.bind (refscopes_ev v) ?_
  by_cases h : (scopesL v.data.toList).2 = 0
  · rw [if_pos h]
    have hl : (sL v).length ≤ 32 := by unfold sL; rw [List.length_map]; exact scopesL_len _
    exact Ev.pos h (refgrants_loop (sL v) hl (sL v).length 0 0 (by omega) (Int.le_refl _) (by omega))
  · rw [if_neg h]
    exact Ev.neg h (Ev.now _)
end Go.Proofs.YtmimipgmhgalaaaGreatDoor.Spec
namespace Go.Proofs.YtmimipgmhgalaaaGreatDoor.PAll
open Go.RowKit Go.Proofs.YtmimipgmhgalaaaGreatDoorW.PrintWords Go.Proofs.YtmimipgmhgalaaaGreatDoor.Plain Go.Proofs.YtmimipgmhgalaaaGreatDoor.Spec Go.Proofs.YtmimipgmhgalaaaGreatDoor.Pure
set_option linter.unusedVariables false
set_option linter.unusedSimpArgs false
def wicketref11_line.f (a0 : ByteArray) : Option (ByteArray × ByteArray × Int × Bool × ByteArray × List ByteArray × Bool) :=
  if a0.size ≤ 140737488351232 ∧ smallB (refC ((parse a0.data.toList).1.map mk34)) = true then some (flatC (refLineS a0.data.toList)) else none
abbrev zCells : Array Value := clCells ⟨#[]⟩ ⟨#[]⟩ 0 false ⟨#[]⟩ (.slice none 0 0)
abbrev nmCells : Array Value := #[.string nId, .string nSecret, .string nGrants, .string nPing, .string nUrl, .string nScope]
structure RlI (w wr : World) (g7 gN : Nat) (A4 : Option Addr) (c4 : Nat) (L : List S121) : Prop where
  r0 : wr.heap[w.heap.size]? = some (.cells zCells 43 (0, 0))
  c7 : wr.heap[g7]? = some (.cells zCells 43 (0, 0))
  nm : wr.heap[gN]? = some (.cells nmCells 9 (0, 0))
  l : Kd.R k121 121 wr w.heap.size (fun k => w.heap.size < k ∧ k < g7) (.slice A4 L.length c4) L
  b : Below w.heap.size w wr
  h7 : w.heap.size < g7
  hN : g7 < gN
section
variable {w wr w1 : World} {g7 gN gV : Nat} {A4 : Option Addr} {c4 : Nat} {L : List S121}
theorem RlI.step (h : RlI w wr g7 gN A4 c4 L) (hb : Below wr.heap.size wr w1) : RlI w w1 g7 gN A4 c4 L :=
  ⟨blk_below h.r0 hb, blk_below h.c7 hb, blk_below h.nm hb, Kd.R_below h.l hb, below_step h.b hb, h.h7, h.hN⟩
theorem RlI.set_ (h : RlI w wr g7 gN A4 c4 L) (hV : gN < gV) (j : Nat) (x : Value) : RlI w (wr.setCell ⟨gV, j, none⟩ x) g7 gN A4 c4 L := by
  have h1 := h.h7; have h2 := h.hN
  refine ⟨blk_far h.r0 (by show w.heap.size ≠ gV; omega) _, blk_far h.c7 (by show g7 ≠ gV; omega) _, blk_far h.nm (by show gN ≠ gV; omega) _, Kd.R_far h.l (fun k hk => by show k ≠ gV; omega) _, below_set h.b (by omega), h1, h2⟩
end
theorem names_C {w : World} {g : Nat} (h : w.heap[g]? = some (.cells nmCells 9 (0, 0))) : Kd.C Kd.string w (some ⟨g, 0, none⟩) 6 namesL := by
  refine ⟨rfl, by omega, fun _ => ⟨_, rfl, fun j p hj => ?_⟩⟩
  refine ⟨[.string p], rfl, rfl, fun i u hu => ?_⟩
  obtain rfl : i = 0 := by cases i with | zero => rfl | succ i => cases hu
  obtain rfl : u = .string p := by simpa using hu.symm
  rw [show (⟨g, 0, none⟩ : Addr).add (j * Kd.string.sz + 0) = ⟨g, j, none⟩ from by rw [show j * Kd.string.sz + 0 = j from Nat.mul_one j]; exact add_plain g j, blk_cell h]
  have hj2 : j < 6 := (List.getElem?_eq_some_iff.1 hj).1
  match j, hj2, hj with
  | 0, _, hj => cases hj; rfl
  | 1, _, hj => cases hj; rfl
  | 2, _, hj => cases hj; rfl
  | 3, _, hj => cases hj; rfl
  | 4, _, hj => cases hj; rfl
  | 5, _, hj => cases hj; rfl
theorem one_C {w : World} {x : ByteArray} {g : Nat} {t : TypeId} (h : w.heap[g]? = some (.cells #[.string x] t (0, 0))) : Kd.C Kd.string w (some ⟨g, 0, none⟩) 1 [x] := by
  refine ⟨rfl, by omega, fun _ => ⟨_, rfl, fun j p hj => ?_⟩⟩
  obtain rfl : j = 0 := by cases j with | zero => rfl | succ i => cases hj
  obtain rfl : x = p := by simpa using hj
  refine ⟨[.string x], rfl, rfl, fun i u hu => ?_⟩
  obtain rfl : i = 0 := by cases i with | zero => rfl | succ i => cases hu
  obtain rfl : u = .string x := by simpa using hu.symm
  exact blk_cell h 0
theorem rl_zero {w wr : World} (h0 : wr.heap[w.heap.size]? = some (.cells zCells 43 (0, 0))) (hb : Below w.heap.size w wr) :
    (putRes wr w.heap.size zC (.slice none 0 0)).heap[w.heap.size]? = some (.cells zCells 43 (0, 0)) ∧ Below w.heap.size w (putRes wr w.heap.size zC (.slice none 0 0)) := by
  have hg : w.heap.size ≤ w.heap.size := Nat.le_refl _
  exact ⟨blk_put (blk_put (blk_put (blk_put (blk_put (blk_put h0 0 _ rfl) 1 _ rfl) 2 _ rfl) 3 _ rfl) 4 _ rfl) 5 _ rfl, below_set (below_set (below_set (below_set (below_set (below_set hb hg) hg) hg) hg) hg) hg⟩
abbrev sixW (wr : World) (g : Nat) (a b : ByteArray) (gr : Int) (p : Bool) (u : ByteArray) (sv : Value) : World := (((((wr.setCell ⟨g, 0, none⟩ (.string a)).setCell ⟨g, 1, none⟩ (.string b)).setCell ⟨g, 2, none⟩ (.int .i64 gr)).setCell ⟨g, 3, none⟩ (.bool p)).setCell ⟨g, 4, none⟩ (.string u)).setCell ⟨g, 5, none⟩ sv
theorem rl_done {w wr : World} (a b : ByteArray) (gr : Int) (p : Bool) (u : ByteArray) (sv : Value) (h0 : wr.heap[w.heap.size]? = some (.cells zCells 43 (0, 0))) (hb : Below w.heap.size w wr) :
    (sixW wr w.heap.size a b gr p u sv).heap[w.heap.size]? = some (.cells #[.string a, .string b, .int .i64 gr, .bool p, .string u, sv] 43 (0, 0)) ∧ Below w.heap.size w (sixW wr w.heap.size a b gr p u sv) := by
  have hg : w.heap.size ≤ w.heap.size := Nat.le_refl _
  exact ⟨blk_put (blk_put (blk_put (blk_put (blk_put (blk_put h0 0 _ rfl) 1 _ rfl) 2 _ rfl) 3 _ rfl) 4 _ rfl) 5 _ rfl, below_set (below_set (below_set (below_set (below_set (below_set hb hg) hg) hg) hg) hg) hg⟩
theorem put_R {wr : World} {base g : Nat} {P : Nat → Prop} {v sv : Value} {l : List ByteArray} (a b : ByteArray) (gr : Int) (p : Bool) (u : ByteArray) (h : Kd.R Kd.string 9 wr base P v l) (hne : ∀ k, P k → k ≠ g) : Kd.R Kd.string 9 (sixW wr g a b gr p u sv) base P v l :=
  Kd.R_far (p := ⟨g, 5, none⟩) (Kd.R_far (p := ⟨g, 4, none⟩) (Kd.R_far (p := ⟨g, 3, none⟩) (Kd.R_far (p := ⟨g, 2, none⟩) (Kd.R_far (p := ⟨g, 1, none⟩) (Kd.R_far (p := ⟨g, 0, none⟩) h hne _) hne _) hne _) hne _) hne _) hne _
theorem small_of {c : ClT} (h : smallB c = true) : Small c := by
  unfold smallB at h
  obtain ⟨h1, h2, h3, h4, h5⟩ := of_decide_eq_true h
  exact ⟨h1, h2, h3, h4, h5⟩
theorem rl_within (x : ByteArray) : ∃ k, wicketref03_Within.f k [x] namesL = some (memB x namesL) := by
  have h := rwithin_ev [x] namesL (by simp) (by decide) 1 0 rfl
  obtain ⟨k, hk⟩ := Ev.rounds (show Ev (fun k => wicketref03_Within.f k [x] namesL) _ from h)
  refine ⟨k, hk.trans ?_⟩
  congr 1
  rw [Bool.eq_iff_iff, memB_iff]
  simp
def vC (V : List ByteArray) (i : Nat) : Array Value := ((V.take i ++ List.replicate (6 - i) (⟨#[]⟩ : ByteArray)).map Value.string).toArray
theorem vC_set (V : List ByteArray) (hV : V.length = 6) (i : Nat) (hi : i < 6) (x : ByteArray) (hx : V[i]? = some x) : (vC V i).setIfInBounds i (.string x) = vC V (i + 1) := by
  match V, hV, i, hi, hx with
  | [a, b, c, d, e, f], _, 0, _, hx => cases hx; rfl
  | [a, b, c, d, e, f], _, 1, _, hx => cases hx; rfl
  | [a, b, c, d, e, f], _, 2, _, hx => cases hx; rfl
  | [a, b, c, d, e, f], _, 3, _, hx => cases hx; rfl
  | [a, b, c, d, e, f], _, 4, _, hx => cases hx; rfl
  | [a, b, c, d, e, f], _, 5, _, hx => cases hx; rfl
theorem vC_get (V : List ByteArray) (hV : V.length = 6) (i : Nat) (hi : i < 6) : ∃ x : ByteArray, (vC V i)[i]? = some (.string x) := by
  match V, hV, i, hi with
  | [a, b, c, d, e, f], _, 0, _ => exact ⟨_, rfl⟩
  | [a, b, c, d, e, f], _, 1, _ => exact ⟨_, rfl⟩
  | [a, b, c, d, e, f], _, 2, _ => exact ⟨_, rfl⟩
  | [a, b, c, d, e, f], _, 3, _ => exact ⟨_, rfl⟩
  | [a, b, c, d, e, f], _, 4, _ => exact ⟨_, rfl⟩
  | [a, b, c, d, e, f], _, 5, _ => exact ⟨_, rfl⟩
theorem nm_get (i : Nat) (hi : i < 6) : ∃ x : ByteArray, namesL[i]? = some x ∧ nmCells[i]? = some (.string x) := by
  match i, hi with
  | 0, _ => exact ⟨_, rfl, rfl⟩
  | 1, _ => exact ⟨_, rfl, rfl⟩
  | 2, _ => exact ⟨_, rfl, rfl⟩
  | 3, _ => exact ⟨_, rfl, rfl⟩
  | 4, _ => exact ⟨_, rfl, rfl⟩
  | 5, _ => exact ⟨_, rfl, rfl⟩
set_option maxHeartbeats 4000000 in
set_option maxRecDepth 100000 in
theorem wicketref11_line.calls (a0 : ByteArray) (r1 r2 : ByteArray) (r3 : Int) (r4 : Bool) (r5 : ByteArray) (r6 : List ByteArray) (r7 : Bool) (w : World) (h : wicketref11_line.f a0 = some (r1, r2, r3, r4, r5, r6, r7)) :
    Calls Tryz.prog 60 #[.string a0] w fun e w' => ∃ v0_ : Value, e = .returned (.tuple #[.agg #[.string r1, .string r2, .int .i64 r3, .bool r4, .string r5, v0_], .bool r7]) ∧ Kd.R Kd.string 9 w' w.heap.size (fun _ => True) v0_ r6 ∧ Below w.heap.size w w' := by
  unfold wicketref11_line.f at h
  split at h
  · rename_i hss
    obtain ⟨hs, hsm⟩ := hss
    obtain ⟨kp, hkp⟩ := Ev.rounds (refparse_ev a0 )
    unfold res61 at hkp
    rw [to61_34] at hkp
    have hu43 := Tryz.underlying43
    have hu121 := Tryz.underlying121
    by_cases he : (parse a0.data.toList).2.1 = 0
    · obtain ⟨L, hL⟩ : ∃ L, (parse a0.data.toList).1.map mk34 = L := ⟨_, rfl⟩
      have hL64 : L.length ≤ 64 := by rw [← hL, List.length_map]; exact parse_len _
      have hR : refLineS a0.data.toList = if refOkB L = true then (refC L, true) else (zC, false) := by
        unfold refLineS
        rw [hL]
        by_cases hk : refOkB L = true
        · rw [if_pos ⟨he, hk⟩, if_pos hk]
        · rw [if_neg (fun h => hk h.2), if_neg hk]
      rw [hR] at h
      rw [hL, he] at hkp
      rw [hL] at hsm
      have HSM := Lib.hid hsm
      clear hsm
      have HH := Lib.hid h
      clear h hR hL he
      obtain ⟨M, hM⟩ : ∃ M, L.map to61 = M := ⟨_, rfl⟩
      obtain ⟨n, hn⟩ : ∃ n, M.length = n := ⟨_, rfl⟩
      have hnL : n = L.length := by rw [← hn, ← hM, List.length_map]
      have HN := Lib.hid hn; have HNL := Lib.hid hnL; have HM := Lib.hid hM
      have hn64 : n ≤ 64 := by omega
      rw [hM] at hkp
      clear hn hnL hM
      go_enter Tryz.func60, Tryz.ntmps60
      go_wp2_with (first | (go_at_call 91; refine (wicketref03_Parse.calls kp a0 _ _ _ _ hkp).mono ?_; rintro e w1 ⟨v0, rfl, ho, hb⟩; obtain ⟨A4, c4, rfl⟩ := Kd.R_slice ho; rw [HN.out] at ho; rw [HN.out]; have HP := Lib.hid ho; have HB := Lib.hid hb; clear ho hb))
      have hI : RlI w ((w1.alloc (.cells zCells 43)).alloc (.cells nmCells 9)) w1.heap.size (w1.heap.size + 1) A4 c4 M := by
        have e1 := blk_below (blk_new w (.cells zCells 43)) HB.out
        have hs1 : (w.alloc (.cells zCells 43)).heap.size = w.heap.size + 1 := by show (w.heap.push _).size = _; simp
        have hsz := HB.out.size
        rw [hs1] at hsz
        have hp1 := HP.out
        rw [hs1] at hp1
        refine ⟨blk_alloc (blk_alloc e1 _) _, blk_alloc (blk_new w1 _) _, ?_, ?_, below_alloc (below_alloc (below_step (below_alloc (Below.refl _ _) _) HB.out) _) _, by omega, by omega⟩
        · have h := blk_new (w1.alloc (.cells zCells 43)) (.cells nmCells 9)
          rwa [show (w1.alloc (.cells zCells 43)).heap.size = w1.heap.size + 1 from Array.size_push _] at h
        · rw [HN.out]
          exact Kd.R_below (Kd.R_lower (Kd.R_mono (Kd.R_bound hp1) (fun k hk => ⟨by have := hk.2.1; omega, hk.2.2.1⟩)) (by omega)) (below_alloc (below_alloc (Below.refl _ _) _) _)
      obtain ⟨g7, hg7⟩ : ∃ g, g = w1.heap.size := ⟨_, rfl⟩
      rw [← hg7] at hI
      rw [← hg7]
      clear hg7
      generalize (w1.alloc (Obj.cells zCells 43)).alloc (Obj.cells nmCells 9) = w2 at hI ⊢
      clear HP HB
      go_loopw [9] (fun v9 wr => ∃ j : Nat, v9 = .int .i64 (j : Int) ∧ j ≤ n ∧ RlI w wr g7 (g7 + 1) A4 c4 M ∧ ∀ p ∈ L.take j, p.f0 ∈ namesL) (fun v9 _ => n - (intOf v9).toNat)
      case atStart => exact ⟨0, rfl, Nat.zero_le _, hI, fun p hp => by simp at hp⟩
      case round =>
        clear hI
        obtain ⟨j, rfl, hj, hI, hk⟩ := hrel
        by_cases hlt : j < n
        · have hjL : j < L.length := by have := HNL.out; omega
          have hjM : j < M.length := by have := HN.out; omega
          have hF := Kd.R_reads' hI.l
          obtain ⟨ad, hA, hx0, hx1⟩ := at_T121 hF.2.2 (j : Int) (by omega) (by omega)
          have hp : (rd_T121 M (j : Int)).f0 = L[j].f0 := by
            have e : M[j] = to61 L[j] := by have := HM.out; subst this; simp
            simp [rd_T121, hjM, e, to61]
          rw [hp] at hx0
          simp only [Int.toNat_natCast] at hx0
          have htk := List.take_succ_eq_append_getElem hjL
          generalize L[j] = p at *
          obtain ⟨kw, hkw⟩ := rl_within p.f0
          have HW := Lib.hid (fun (W : World) (g : Nat) (h1 : W.heap[g]? = some (.cells #[.string p.f0] 9 (0, 0))) (h2 : W.heap[g7 + 1]? = some (.cells nmCells 9 (0, 0))) =>
            show Calls Tryz.prog 44 #[.slice (some ⟨g, 0, none⟩) 1 1, .slice (some ⟨g7 + 1, 0, none⟩) 6 6] W (fun e w' => e = .returned (.bool (memB p.f0 namesL)) ∧ Drawn0 W w') from
            wicketref03_Within.calls kw (some ⟨g, 0, none⟩) 1 [p.f0] (some ⟨g7 + 1, 0, none⟩) 6 namesL _ W (one_C h1) (Nat.le_refl _) (names_C h2) (Nat.le_refl _) hkw)
          have HI := Lib.hid hI; have HK := Lib.hid hk; have HT := Lib.hid htk
          subst hA
          clear hI hk htk hF hp hx1 hkw hjM
          by_cases hin : p.f0 ∈ namesL
          · go_wp2_with (first | (go_at_call 44; (with_reducible refine (HW.out _ _ (blk_new wr _) (blk_alloc HI.out.nm _)).mono ?_); rintro e w3 ⟨rfl, ⟨nd, rfl⟩⟩; rw [(memB_iff _ _).2 hin]))
            exact ⟨⟨j + 1, rfl, by omega, HI.out.step (pw_below_drewN (below_alloc (Below.refl _ _) _) nd), fun q hq => by
              rw [HT.out, List.mem_append, List.mem_singleton] at hq
              rcases hq with hq | rfl
              · exact HK.out q hq
              · exact hin⟩, by simp [intOf]; omega⟩
          · have hbad : ¬ refOkB L = true := fun hkb => have hk := (refOkB_iff L).1 hkb; hin (hk.1 p (by
              have : p ∈ L.take (j + 1) := by rw [HT.out]; simp
              exact List.mem_of_mem_take this))
            have hh := HH.out
            rw [if_neg hbad] at hh
            unfold flatC zC at hh
            simp only [Option.some.injEq, Prod.mk.injEq] at hh
            obtain ⟨rfl, rfl, rfl, rfl, rfl, rfl, rfl⟩ := hh
            have hr := blk_alloc HI.out.r0 (.cells #[.string p.f0] 9)
            have q0 := (blk_cell hr 0).trans rfl; have f0 := blk_frozen hr 0; have q1 := (blk_cell hr 1).trans rfl; have f1 := blk_frozen hr 1; have q2 := (blk_cell hr 2).trans rfl; have f2 := blk_frozen hr 2; have q3 := (blk_cell hr 3).trans rfl; have f3 := blk_frozen hr 3; have q4 := (blk_cell hr 4).trans rfl; have f4 := blk_frozen hr 4; have q5 := (blk_cell hr 5).trans rfl; have f5 := blk_frozen hr 5
            have HR := Lib.hid hr
            clear hr
            go_wp2_with (first | (go_at_call 44; (with_reducible refine (HW.out _ _ (blk_new wr _) (blk_alloc HI.out.nm _)).mono ?_); rintro e w3 ⟨rfl, ⟨nd, rfl⟩⟩; rw [show memB p.f0 namesL = false from Bool.eq_false_iff.2 (fun e => hin ((memB_iff _ _).1 e))]))
            have hfin := rl_zero (wr := (wr.alloc (.cells #[.string p.f0] 9)).drewN nd) HR.out (pw_below_drewN (below_alloc HI.out.b _) nd)
            refine bodyPost_ret (results_ct rfl _ _ w.heap.size 43 zCells (0, 0) _ rfl hfin.1 hu43 rfl (by kernel_rfl)) rfl ?_
            exact ⟨_, rfl, Kd.R_nil _ _ _ _ _, hfin.2⟩
        · have hge : decide (j < n) = false := decide_eq_false hlt
          have hall : ∀ p ∈ L, p.f0 ∈ namesL := fun p hp => hk p (by rw [List.take_of_length_le (by have := HNL.out; omega)]; exact hp)
          have HI := Lib.hid hI; have HK := Lib.hid hall
          clear hI hk hall
          go_wp2
          obtain ⟨V, hV⟩ : ∃ V, V = namesL.map (fun n => lastV n L ⟨#[]⟩) := ⟨_, rfl⟩
          have hV6 : V.length = 6 := by rw [hV]; rfl
          have hJ : RlI w (wr.alloc (.cells #[.string ⟨#[]⟩, .string ⟨#[]⟩, .string ⟨#[]⟩, .string ⟨#[]⟩, .string ⟨#[]⟩, .string ⟨#[]⟩] 146)) g7 (g7 + 1) A4 c4 M := HI.out.step (below_alloc (Below.refl _ _) _)
          have hVb : (wr.alloc (.cells #[.string ⟨#[]⟩, .string ⟨#[]⟩, .string ⟨#[]⟩, .string ⟨#[]⟩, .string ⟨#[]⟩, .string ⟨#[]⟩] 146)).heap[wr.heap.size]? = some (.cells (vC V 0) 146 (0, 0)) := blk_new wr _
          have hgV : g7 + 1 < wr.heap.size := blk_lt HI.out.nm
          obtain ⟨gV, hgv⟩ : ∃ g, g = wr.heap.size := ⟨_, rfl⟩
          rw [← hgv] at hVb hgV ⊢
          clear hgv
          generalize wr.alloc (Obj.cells #[.string ⟨#[]⟩, .string ⟨#[]⟩, .string ⟨#[]⟩, .string ⟨#[]⟩, .string ⟨#[]⟩, .string ⟨#[]⟩] 146) = wv at hJ hVb ⊢
          have HV := Lib.hid hV; have HV6 := Lib.hid hV6
          clear HI hV hV6
          go_loopw [11, 12, 13, 14] (fun v11 _ _ _ ws => ∃ i : Nat, v11 = .int .i64 (i : Int) ∧ i ≤ 6 ∧ RlI w ws g7 (g7 + 1) A4 c4 M ∧ ws.heap[gV]? = some (.cells (vC V i) 146 (0, 0)) ∧ ∀ q x, q < i → namesL[q]? = some x → countV x L ≤ 1) (fun v11 _ _ _ _ => 6 - (intOf v11).toNat)
          case atStart => exact ⟨0, rfl, Nat.zero_le _, hJ, hVb, fun q x hq => by omega⟩
          case round =>
            clear hJ hVb
            obtain ⟨i, rfl, hi, hJ, hVb, hcn⟩ := hrel
            by_cases hit : i < 6
            · obtain ⟨nm, hn1, hn2⟩ := nm_get i hit
              have cn := (blk_cell hJ.nm i).trans hn2
              obtain ⟨xo, hxo⟩ := vC_get V HV6.out i hit
              have cv := (blk_cell hVb i).trans hxo
              have fv := blk_frozen hVb i
              obtain ⟨ko, hko⟩ := Ev.rounds (refone L hL64 nm)
              rw [HM.out] at hko
              have HJ := Lib.hid hJ; have HVb := Lib.hid hVb; have HC := Lib.hid hcn; have HN1 := Lib.hid hn1
              clear hJ hVb hcn hn1 hn2 hxo
              by_cases hc : countV nm L > 1
              · rw [if_pos hc] at hko
                have HO := Lib.hid (fun (W : World) (h1 : RlI w W g7 (g7 + 1) A4 c4 M) => show Calls Tryz.prog 39 #[.slice A4 n c4, .string nm] W (fun e w' => e = .returned (.tuple #[.string ⟨#[]⟩, .bool false, .int .i64 34]) ∧ Drawn0 W w') from by
                  have h2 := Kd.R_reads' h1.l
                  rw [HN.out] at h2
                  rw [← HN.out] at h2 ⊢
                  exact wicketref03_One.calls ko A4 c4 M nm _ _ _ W h2.2.2 h2.2.1 hko)
                have hbad : ¬ refOkB L = true := fun hkb => by have hk := (refOkB_iff L).1 hkb; have := hk.2.1 nm (List.mem_of_getElem? HN1.out); omega
                have hh := HH.out
                rw [if_neg hbad] at hh
                unfold flatC zC at hh
                simp only [Option.some.injEq, Prod.mk.injEq] at hh
                obtain ⟨rfl, rfl, rfl, rfl, rfl, rfl, rfl⟩ := hh
                have hr := HJ.out.r0
                have q0 := (blk_cell hr 0).trans rfl; have f0 := blk_frozen hr 0; have q1 := (blk_cell hr 1).trans rfl; have f1 := blk_frozen hr 1; have q2 := (blk_cell hr 2).trans rfl; have f2 := blk_frozen hr 2; have q3 := (blk_cell hr 3).trans rfl; have f3 := blk_frozen hr 3; have q4 := (blk_cell hr 4).trans rfl; have f4 := blk_frozen hr 4; have q5 := (blk_cell hr 5).trans rfl; have f5 := blk_frozen hr 5
                clear hr hko
                go_wp2_with (first | (go_at_call 39; (with_reducible refine (HO.out _ HJ.out).mono ?_); rintro e w3 ⟨rfl, ⟨nd, rfl⟩⟩))
                have hfin := rl_zero (wr := wr.drewN nd) HJ.out.r0 (pw_below_drewN HJ.out.b nd)
                refine bodyPost_ret (results_ct rfl _ _ w.heap.size 43 zCells (0, 0) _ rfl hfin.1 hu43 rfl (by kernel_rfl)) rfl ?_
                exact ⟨_, rfl, Kd.R_nil _ _ _ _ _, hfin.2⟩
              · rw [if_neg hc] at hko
                have HO := Lib.hid (fun (W : World) (h1 : RlI w W g7 (g7 + 1) A4 c4 M) => show Calls Tryz.prog 39 #[.slice A4 n c4, .string nm] W (fun e w' => e = .returned (.tuple #[.string (lastV nm L ⟨#[]⟩), .bool ((lastV nm L ⟨#[]⟩).toList != []), .int .i64 0]) ∧ Drawn0 W w') from by
                  have h2 := Kd.R_reads' h1.l
                  rw [HN.out] at h2
                  rw [← HN.out] at h2 ⊢
                  exact wicketref03_One.calls ko A4 c4 M nm _ _ _ W h2.2.2 h2.2.1 hko)
                have hvx : V[i]? = some (lastV nm L ⟨#[]⟩) := by rw [HV.out, List.getElem?_map, HN1.out]; rfl
                have HVX := Lib.hid hvx
                clear hko hvx
                go_wp2_with (first | (go_at_call 39; (with_reducible refine (HO.out _ HJ.out).mono ?_); rintro e w3 ⟨rfl, ⟨nd, rfl⟩⟩))
                exact ⟨⟨i + 1, rfl, by omega, (HJ.out.step (pw_below_drewN (Below.refl _ _) nd)).set_ hgV _ _, blk_put HVb.out i _ (vC_set V HV6.out i hit _ HVX.out), fun q x hq hx => by
                  by_cases e : q = i
                  · subst e
                    have := HN1.out
                    rw [this] at hx
                    cases hx
                    omega
                  · exact HC.out q x (by omega) hx⟩, by simp [intOf]; omega⟩
            · have hge : decide (i < 6) = false := decide_eq_false hit
              obtain rfl : i = 6 := by omega
              have hcnt : ∀ x ∈ namesL, countV x L ≤ 1 := fun x hx => by
                obtain ⟨q, hq⟩ := List.getElem?_of_mem hx
                exact hcn q x (List.getElem?_eq_some_iff.1 hq).1 hq
              have hV6b : wr.heap[gV]? = some (.cells #[.string (lastV nId L ⟨#[]⟩), .string (lastV nSecret L ⟨#[]⟩), .string (lastV nGrants L ⟨#[]⟩), .string (lastV nPing L ⟨#[]⟩), .string (lastV nUrl L ⟨#[]⟩), .string (lastV nScope L ⟨#[]⟩)] 146 (0, 0)) := by
                rw [hVb, HV.out]; rfl
              obtain ⟨kg, hkg⟩ := Ev.rounds (refgrants (lastV nGrants L ⟨#[]⟩))
              obtain ⟨ks, hks⟩ := Ev.rounds (refscopes_ev (lastV nScope L ⟨#[]⟩))
              obtain ⟨S, hS⟩ : ∃ S, sL (lastV nScope L ⟨#[]⟩) = S := ⟨_, rfl⟩
              obtain ⟨se, hse⟩ : ∃ se, (scopesL (lastV nScope L ⟨#[]⟩).data.toList).2 = se := ⟨_, rfl⟩
              have hks' : wicketref03_Scopes.f ks (lastV nScope L ⟨#[]⟩) = some (S, se) := by rw [hks, ← hS, ← hse]; rfl
              have hok : refOkB L = true ↔ se = 0 ∧ ((lastV nPing L ⟨#[]⟩).toList = [] ∨ (lastV nPing L ⟨#[]⟩).toList = [121, 101, 115]) ∧ checkL (refC L) = true := by
                rw [refOkB_iff, ← hse]
                exact ⟨fun h => h.2.2, fun h => ⟨HK.out, hcnt, h⟩⟩
              have hrc : refC L = ⟨lastV nId L ⟨#[]⟩, lastV nSecret L ⟨#[]⟩, grR (lastV nGrants L ⟨#[]⟩), decide ((lastV nPing L ⟨#[]⟩).toList = [121, 101, 115]), lastV nUrl L ⟨#[]⟩, S⟩ := by rw [← hS]; rfl
              generalize lastV nId L ⟨#[]⟩ = vi at *
              generalize lastV nSecret L ⟨#[]⟩ = vs at *
              generalize grR (lastV nGrants L ⟨#[]⟩) = gr at *
              generalize lastV nGrants L ⟨#[]⟩ = vg at *
              generalize lastV nPing L ⟨#[]⟩ = vp at *
              generalize lastV nUrl L ⟨#[]⟩ = vu at *
              generalize lastV nScope L ⟨#[]⟩ = vc at *
              have HG := Lib.hid (fun W : World => wicketref11_grants.calls kg vg gr W hkg)
              have HS := Lib.hid (fun W : World => wicketref03_Scopes.calls ks vc S se W hks')
              have s0 := (blk_cell hV6b 0).trans rfl; have s1 := (blk_cell hV6b 1).trans rfl; have s2 := (blk_cell hV6b 2).trans rfl; have s3 := (blk_cell hV6b 3).trans rfl; have s4 := (blk_cell hV6b 4).trans rfl; have s5 := (blk_cell hV6b 5).trans rfl
              have hc7 := hJ.c7
              have d0 := (blk_cell hc7 0).trans rfl; have d1 := (blk_cell hc7 1).trans rfl; have d2 := (blk_cell hc7 2).trans rfl
              have e0 := blk_frozen hc7 0; have e1 := blk_frozen hc7 1; have e2 := blk_frozen hc7 2
              have HJ := Lib.hid hJ; have HVb := Lib.hid hV6b; have HC7 := Lib.hid hc7; have HOK := Lib.hid hok; have HRC := Lib.hid hrc
              clear hJ hVb hV6b hc7 hcn hcnt hok hrc hkg hks hks' hS hse HV HV6
              have hne : g7 ≠ gV := by omega
              have hJ7 := HJ.out.h7
              have hw7 : w.heap.size ≠ g7 := by omega
              go_wp2_with (fail)
              refine (HG.out _).mono ?_
              rintro e w5 ⟨rfl, hb5⟩
              have C7 := Lib.hid (blk_below (blk_put (blk_put HC7.out 0 (.string vi) rfl) 1 (.string vs) rfl) hb5)
              have V7 := Lib.hid (blk_below (blk_far (p := ⟨g7, 1, none⟩) (blk_far (p := ⟨g7, 0, none⟩) HVb.out hne.symm (.string vi)) hne.symm (.string vs)) hb5)
              have R7 := Lib.hid (blk_below (blk_far (p := ⟨g7, 1, none⟩) (blk_far (p := ⟨g7, 0, none⟩) HJ.out.r0 hw7 (.string vi)) hw7 (.string vs)) hb5)
              have B7 := Lib.hid (below_step (below_set (below_set HJ.out.b (by omega)) (by omega)) hb5)
              clear s0 s1 s2 s3 s4 s5 d0 d1 d2 e0 e1 e2 hb5 HC7 HVb
              have s3 := (blk_cell V7.out 3).trans rfl; have s4 := (blk_cell V7.out 4).trans rfl; have s5 := (blk_cell V7.out 5).trans rfl
              have d2 := (blk_cell C7.out 2).trans rfl; have d3 := (blk_cell C7.out 3).trans rfl; have d4 := (blk_cell C7.out 4).trans rfl
              have e2 := blk_frozen C7.out 2; have e3 := blk_frozen C7.out 3; have e4 := blk_frozen C7.out 4
              obtain ⟨pg, hpg⟩ : ∃ pg, (vp.toList == [121, 101, 115]) = pg := ⟨_, rfl⟩
              go_wp2_with (fail)
              refine (HS.out _).mono ?_
              rintro e w6 ⟨v5, rfl, hR6, hb6⟩
              obtain ⟨A5, c5, rfl⟩ := Kd.R_slice hR6
              have C8 := Lib.hid (blk_below (blk_put (blk_put (blk_put C7.out 2 (.int .i64 gr) rfl) 3 (.bool pg) rfl) 4 (.string vu) rfl) hb6)
              have V8 := Lib.hid (blk_below (blk_far (p := ⟨g7, 4, none⟩) (blk_far (p := ⟨g7, 3, none⟩) (blk_far (p := ⟨g7, 2, none⟩) V7.out hne.symm (.int .i64 gr)) hne.symm (.bool pg)) hne.symm (.string vu)) hb6)
              have R8 := Lib.hid (blk_below (blk_far (p := ⟨g7, 4, none⟩) (blk_far (p := ⟨g7, 3, none⟩) (blk_far (p := ⟨g7, 2, none⟩) R7.out hw7 (.int .i64 gr)) hw7 (.bool pg)) hw7 (.string vu)) hb6)
              have B8 := Lib.hid (below_step (below_set (below_set (below_set B7.out (by omega)) (by omega)) (by omega)) hb6)
              have hsz5 : g7 < (((w5.setCell ⟨g7, 2, none⟩ (.int .i64 gr)).setCell ⟨g7, 3, none⟩ (.bool pg)).setCell ⟨g7, 4, none⟩ (.string vu)).heap.size := by
                have := blk_lt C7.out
                simpa using this
              have hR7 : Kd.R Kd.string 9 w6 w.heap.size (fun k => g7 < k) (.slice A5 S.length c5) S := Kd.R_lower (Kd.R_mono (Kd.R_bound hR6) (fun k hk => by have := hk.2.1; omega)) (by have := B8.out.size; have := hb6.size; omega)
              have hR8 := Kd.R_far (p := ⟨g7, 5, none⟩) hR7 (fun k hk => by show k ≠ g7; omega) (.slice A5 S.length c5)
              have C9 := Lib.hid (blk_put C8.out 5 (.slice A5 S.length c5) rfl)
              have R9 := Lib.hid (blk_far (p := ⟨g7, 5, none⟩) R8.out hw7 (.slice A5 S.length c5))
              have B9 := Lib.hid (below_set (j := 5) (v := .slice A5 S.length c5) B8.out (show w.heap.size ≤ g7 by omega))
              have HR8 := Lib.hid hR8
              have hn5 := (Kd.R_reads' hR8).2.1
              have s3b := (blk_cell V8.out 3).trans rfl
              have d5 := (blk_cell C8.out 5).trans rfl
              have e5 := blk_frozen C8.out 5
              have hneB := hne
              clear s3 s4 s5 d2 d3 d4 e2 e3 e4 hR6 hR7 hR8 hb6 C7 V7 R7 B7
              go_upto_region 26 with (fail)
              have V9 := Lib.hid (blk_far (p := ⟨g7, 5, none⟩) V8.out hne.symm (.slice A5 S.length c5))
              have hpgd : pg = decide (vp.toList = [121, 101, 115]) := by rw [← hpg, Bool.eq_iff_iff]; simp
              have hrc := HRC.out
              rw [← hpgd] at hrc
              have hsml := small_of HSM.out
              rw [hrc] at hsml
              obtain ⟨kc, hkc⟩ := Ev.rounds (refcheck_ev _ hsml)
              have HRC2 := Lib.hid hrc
              generalize w6.setCell ⟨g7, 5, none⟩ (Value.slice A5 S.length c5) = w9 at *
              have HCK := Lib.hid (fun (W : World) (h : Kd.C Kd.string W A5 S.length S) => wicketref11_Check.calls kc vi vs gr pg vu A5 c5 S (numC (checkL (refC L))) W h hn5 (by rw [hrc]; exact hkc))
              have s3b := (blk_cell V9.out 3).trans rfl
              have hr9 := R9.out
              have hc9 := C9.out
              have q0 := (blk_cell hr9 0).trans rfl; have f0 := blk_frozen hr9 0; have q1 := (blk_cell hr9 1).trans rfl; have f1 := blk_frozen hr9 1; have q2 := (blk_cell hr9 2).trans rfl; have f2 := blk_frozen hr9 2; have q3 := (blk_cell hr9 3).trans rfl; have f3 := blk_frozen hr9 3; have q4 := (blk_cell hr9 4).trans rfl; have f4 := blk_frozen hr9 4; have q5 := (blk_cell hr9 5).trans rfl; have f5 := blk_frozen hr9 5
              have x0 := (blk_cell hc9 0).trans rfl; have y0 := blk_frozen hc9 0; have x1 := (blk_cell hc9 1).trans rfl; have y1 := blk_frozen hc9 1; have x2 := (blk_cell hc9 2).trans rfl; have y2 := blk_frozen hc9 2; have x3 := (blk_cell hc9 3).trans rfl; have y3 := blk_frozen hc9 3; have x4 := (blk_cell hc9 4).trans rfl; have y4 := blk_frozen hc9 4; have x5 := (blk_cell hc9 5).trans rfl; have y5 := blk_frozen hc9 5
              clear hrc hsml hkc hr9 hc9 C8 V8 R8 B8 HRC d5 e5 hpgd
              by_cases hse : se = 0
              · subst hse
                by_cases hpe : vp.toList = []
                · have hpf : pg = false := by rw [← hpg, hpe]; rfl
                  subst hpf
                  have h1 : vp.toList.isEmpty = true := by rw [hpe]; rfl
                  have HPO := (Or.inl hpe : vp.toList = [] ∨ vp.toList = [121, 101, 115])
                  have HCW := Lib.hid ((Kd.R_reads' HR8.out).2.2)
                  cases hchk : checkL (refC L) with
                  | false =>
                    have hn0 : numC false = 111 := rfl
                    have hbad : ¬ refOkB L = true := fun h => by have := (HOK.out.1 h).2.2; rw [hchk] at this; cases this
                    have hh := HH.out
                    rw [if_neg hbad] at hh
                    unfold flatC zC at hh
                    simp only [Option.some.injEq, Prod.mk.injEq] at hh
                    obtain ⟨rfl, rfl, rfl, rfl, rfl, rfl, rfl⟩ := hh
                    rw [hchk, hn0] at HCK
                    clear q0 q1 q2 q3 q4 q5 f0 f1 f2 f3 f4 f5
                    go_wp2_with (first | (go_at_call 26; (with_reducible refine (HCK.out _ HCW.out).mono ?_); rintro e w10 ⟨rfl, hb10⟩; have hr10 := blk_below R9.out hb10; have q0 := (blk_cell hr10 0).trans rfl; have f0 := blk_frozen hr10 0; have q1 := (blk_cell hr10 1).trans rfl; have f1 := blk_frozen hr10 1; have q2 := (blk_cell hr10 2).trans rfl; have f2 := blk_frozen hr10 2; have q3 := (blk_cell hr10 3).trans rfl; have f3 := blk_frozen hr10 3; have q4 := (blk_cell hr10 4).trans rfl; have f4 := blk_frozen hr10 4; have q5 := (blk_cell hr10 5).trans rfl; have f5 := blk_frozen hr10 5; have R10 := Lib.hid hr10; have B10 := Lib.hid (below_step B9.out hb10); clear hr10 hb10))
                    have hfin := rl_zero R10.out B10.out
                    refine bodyPost_ret (results_ct rfl _ _ w.heap.size 43 zCells (0, 0) _ rfl hfin.1 hu43 rfl (by kernel_rfl)) rfl ?_
                    exact ⟨_, rfl, Kd.R_nil _ _ _ _ _, hfin.2⟩
                  | true =>
                    have hn0 : numC true = 0 := rfl
                    have hgood : refOkB L = true := HOK.out.2 ⟨rfl, HPO, hchk⟩
                    have hh := HH.out
                    rw [if_pos hgood, HRC2.out] at hh
                    unfold flatC at hh
                    simp only [Option.some.injEq, Prod.mk.injEq] at hh
                    obtain ⟨rfl, rfl, rfl, rfl, rfl, rfl, rfl⟩ := hh
                    rw [hchk, hn0] at HCK
                    clear q0 q1 q2 q3 q4 q5 f0 f1 f2 f3 f4 f5
                    go_wp2_with (first | (go_at_call 26; (with_reducible refine (HCK.out _ HCW.out).mono ?_); rintro e w10 ⟨rfl, hb10⟩; have hr10 := blk_below R9.out hb10; have q0 := (blk_cell hr10 0).trans rfl; have f0 := blk_frozen hr10 0; have q1 := (blk_cell hr10 1).trans rfl; have f1 := blk_frozen hr10 1; have q2 := (blk_cell hr10 2).trans rfl; have f2 := blk_frozen hr10 2; have q3 := (blk_cell hr10 3).trans rfl; have f3 := blk_frozen hr10 3; have q4 := (blk_cell hr10 4).trans rfl; have f4 := blk_frozen hr10 4; have q5 := (blk_cell hr10 5).trans rfl; have f5 := blk_frozen hr10 5; have hc10 := blk_below C9.out hb10; have z0 := (blk_cell hc10 0).trans rfl; have y0 := blk_frozen hc10 0; have z1 := (blk_cell hc10 1).trans rfl; have y1 := blk_frozen hc10 1; have z2 := (blk_cell hc10 2).trans rfl; have y2 := blk_frozen hc10 2; have z3 := (blk_cell hc10 3).trans rfl; have y3 := blk_frozen hc10 3; have z4 := (blk_cell hc10 4).trans rfl; have y4 := blk_frozen hc10 4; have z5 := (blk_cell hc10 5).trans rfl; have y5 := blk_frozen hc10 5; have R10 := Lib.hid hr10; have B10 := Lib.hid (below_step B9.out hb10); have K10 := Lib.hid hb10; clear hr10 hc10 hb10 x0 x1 x2 x3 x4 x5))
                    have hfin := rl_done vi vs gr false vu (.slice A5 S.length c5) R10.out B10.out
                    refine bodyPost_ret (results_ct rfl _ _ w.heap.size 43 #[.string vi, .string vs, .int .i64 gr, .bool false, .string vu, .slice A5 S.length c5] (0, 0) _ rfl hfin.1 hu43 rfl (by kernel_rfl)) rfl ?_
                    exact ⟨_, rfl, Kd.R_mono (put_R vi vs gr false vu (Kd.R_below HR8.out K10.out) (fun k hk => by omega)) (fun _ _ => trivial), hfin.2⟩
                · have h1 : vp.toList.isEmpty = false := by cases hl : vp.toList with | nil => exact absurd hl hpe | cons _ _ => rfl
                  have h2 : (vp.toList == []) = false := beq_eq_false_iff_ne.2 hpe
                  have h3 : (vp.toList != []) = true := bne_iff_ne.2 hpe
                  by_cases hpy : vp.toList = [121, 101, 115]
                  · have hpt : pg = true := by rw [← hpg, hpy]; rfl
                    subst hpt
                    have h4 : (vp.toList != [121, 101, 115]) = false := bne_eq_false_iff_eq.2 hpy
                    have HPO := (Or.inr hpy : vp.toList = [] ∨ vp.toList = [121, 101, 115])
                    have HCW := Lib.hid ((Kd.R_reads' HR8.out).2.2)
                    cases hchk : checkL (refC L) with
                    | false =>
                      have hn0 : numC false = 111 := rfl
                      have hbad : ¬ refOkB L = true := fun h => by have := (HOK.out.1 h).2.2; rw [hchk] at this; cases this
                      have hh := HH.out
                      rw [if_neg hbad] at hh
                      unfold flatC zC at hh
                      simp only [Option.some.injEq, Prod.mk.injEq] at hh
                      obtain ⟨rfl, rfl, rfl, rfl, rfl, rfl, rfl⟩ := hh
                      rw [hchk, hn0] at HCK
                      clear q0 q1 q2 q3 q4 q5 f0 f1 f2 f3 f4 f5
                      go_wp2_with (first | (go_at_call 26; (with_reducible refine (HCK.out _ HCW.out).mono ?_); rintro e w10 ⟨rfl, hb10⟩; have hr10 := blk_below R9.out hb10; have q0 := (blk_cell hr10 0).trans rfl; have f0 := blk_frozen hr10 0; have q1 := (blk_cell hr10 1).trans rfl; have f1 := blk_frozen hr10 1; have q2 := (blk_cell hr10 2).trans rfl; have f2 := blk_frozen hr10 2; have q3 := (blk_cell hr10 3).trans rfl; have f3 := blk_frozen hr10 3; have q4 := (blk_cell hr10 4).trans rfl; have f4 := blk_frozen hr10 4; have q5 := (blk_cell hr10 5).trans rfl; have f5 := blk_frozen hr10 5; have R10 := Lib.hid hr10; have B10 := Lib.hid (below_step B9.out hb10); clear hr10 hb10))
                      have hfin := rl_zero R10.out B10.out
                      refine bodyPost_ret (results_ct rfl _ _ w.heap.size 43 zCells (0, 0) _ rfl hfin.1 hu43 rfl (by kernel_rfl)) rfl ?_
                      exact ⟨_, rfl, Kd.R_nil _ _ _ _ _, hfin.2⟩
                    | true =>
                      have hn0 : numC true = 0 := rfl
                      have hgood : refOkB L = true := HOK.out.2 ⟨rfl, HPO, hchk⟩
                      have hh := HH.out
                      rw [if_pos hgood, HRC2.out] at hh
                      unfold flatC at hh
                      simp only [Option.some.injEq, Prod.mk.injEq] at hh
                      obtain ⟨rfl, rfl, rfl, rfl, rfl, rfl, rfl⟩ := hh
                      rw [hchk, hn0] at HCK
                      clear q0 q1 q2 q3 q4 q5 f0 f1 f2 f3 f4 f5
                      go_wp2_with (first | (go_at_call 26; (with_reducible refine (HCK.out _ HCW.out).mono ?_); rintro e w10 ⟨rfl, hb10⟩; have hr10 := blk_below R9.out hb10; have q0 := (blk_cell hr10 0).trans rfl; have f0 := blk_frozen hr10 0; have q1 := (blk_cell hr10 1).trans rfl; have f1 := blk_frozen hr10 1; have q2 := (blk_cell hr10 2).trans rfl; have f2 := blk_frozen hr10 2; have q3 := (blk_cell hr10 3).trans rfl; have f3 := blk_frozen hr10 3; have q4 := (blk_cell hr10 4).trans rfl; have f4 := blk_frozen hr10 4; have q5 := (blk_cell hr10 5).trans rfl; have f5 := blk_frozen hr10 5; have hc10 := blk_below C9.out hb10; have z0 := (blk_cell hc10 0).trans rfl; have y0 := blk_frozen hc10 0; have z1 := (blk_cell hc10 1).trans rfl; have y1 := blk_frozen hc10 1; have z2 := (blk_cell hc10 2).trans rfl; have y2 := blk_frozen hc10 2; have z3 := (blk_cell hc10 3).trans rfl; have y3 := blk_frozen hc10 3; have z4 := (blk_cell hc10 4).trans rfl; have y4 := blk_frozen hc10 4; have z5 := (blk_cell hc10 5).trans rfl; have y5 := blk_frozen hc10 5; have R10 := Lib.hid hr10; have B10 := Lib.hid (below_step B9.out hb10); have K10 := Lib.hid hb10; clear hr10 hc10 hb10 x0 x1 x2 x3 x4 x5))
                      have hfin := rl_done vi vs gr true vu (.slice A5 S.length c5) R10.out B10.out
                      refine bodyPost_ret (results_ct rfl _ _ w.heap.size 43 #[.string vi, .string vs, .int .i64 gr, .bool true, .string vu, .slice A5 S.length c5] (0, 0) _ rfl hfin.1 hu43 rfl (by kernel_rfl)) rfl ?_
                      exact ⟨_, rfl, Kd.R_mono (put_R vi vs gr true vu (Kd.R_below HR8.out K10.out) (fun k hk => by omega)) (fun _ _ => trivial), hfin.2⟩
                  · have h4 : (vp.toList != [121, 101, 115]) = true := bne_iff_ne.2 hpy
                    have hpf : pg = false := by rw [← hpg]; exact beq_eq_false_iff_ne.2 hpy
                    subst hpf
                    have hbad : ¬ refOkB L = true := fun h => (HOK.out.1 h).2.1.elim hpe hpy
                    have hh := HH.out
                    rw [if_neg hbad] at hh
                    unfold flatC zC at hh
                    simp only [Option.some.injEq, Prod.mk.injEq] at hh
                    obtain ⟨rfl, rfl, rfl, rfl, rfl, rfl, rfl⟩ := hh
                    go_wp2
                    have hfin := rl_zero R9.out B9.out
                    refine bodyPost_ret (results_ct rfl _ _ w.heap.size 43 zCells (0, 0) _ rfl hfin.1 hu43 rfl (by kernel_rfl)) rfl ?_
                    exact ⟨_, rfl, Kd.R_nil _ _ _ _ _, hfin.2⟩
              · have hbad : ¬ refOkB L = true := fun h => hse (HOK.out.1 h).1
                have hh := HH.out
                rw [if_neg hbad] at hh
                unfold flatC zC at hh
                simp only [Option.some.injEq, Prod.mk.injEq] at hh
                obtain ⟨rfl, rfl, rfl, rfl, rfl, rfl, rfl⟩ := hh
                have hsb : (se != 0) = true := by simp [hse]
                go_wp2
                have hfin := rl_zero R9.out B9.out
                refine bodyPost_ret (results_ct rfl _ _ w.heap.size 43 zCells (0, 0) _ rfl hfin.1 hu43 rfl (by kernel_rfl)) rfl ?_
                exact ⟨_, rfl, Kd.R_nil _ _ _ _ _, hfin.2⟩
    · have hz : refLineS a0.data.toList = (zC, false) := by unfold refLineS; rw [if_neg (fun h => he h.1)]
      rw [hz] at h
      unfold flatC zC at h
      simp only [Option.some.injEq, Prod.mk.injEq] at h
      obtain ⟨rfl, rfl, rfl, rfl, rfl, rfl, rfl⟩ := h
      have hpe := parse_err _ he
      rw [hpe] at hkp
      obtain ⟨E, hE⟩ : ∃ E, (parse a0.data.toList).2.1 = E := ⟨_, rfl⟩
      rw [hE] at hkp he
      have hen : (E != 0) = true := by simp [he]
      clear hz hpe hE
      go_enter Tryz.func60, Tryz.ntmps60
      go_wp2_with (first | (go_at_call 91; refine (wicketref03_Parse.calls kp a0 _ _ _ _ hkp).mono ?_; rintro e w1 ⟨v0, rfl, ho, hb⟩; have hr0 := blk_below (blk_new w (.cells zCells 43)) hb; have HB := Lib.hid (below_step (below_alloc (Below.refl _ _) _) hb); have q0 := blk_cell hr0 0; have q1 := blk_cell hr0 1; have q2 := blk_cell hr0 2; have q3 := blk_cell hr0 3; have q4 := blk_cell hr0 4; have q5 := blk_cell hr0 5; have f0 := blk_frozen hr0 0; have f1 := blk_frozen hr0 1; have f2 := blk_frozen hr0 2; have f3 := blk_frozen hr0 3; have f4 := blk_frozen hr0 4; have f5 := blk_frozen hr0 5; have HR0 := Lib.hid hr0; clear hb hr0 ho))
      have hfin := rl_zero HR0.out HB.out
      refine bodyPost_ret (results_ct rfl _ _ w.heap.size 43 zCells (0, 0) _ rfl hfin.1 hu43 rfl (by kernel_rfl)) rfl ?_
      exact ⟨_, rfl, Kd.R_nil _ _ _ _ _, hfin.2⟩
  · cases h
end Go.Proofs.YtmimipgmhgalaaaGreatDoor.PAll
end
section
namespace Go.Proofs.YtmimipgmhgalaaaGreatDoor.PAll
open Go.RowKit Go.Proofs.YtmimipgmhgalaaaGreatDoorW.PrintWords Go.Proofs.YtmimipgmhgalaaaGreatDoorW.PrintLast Go.Proofs.YtmimipgmhgalaaaGreatDoorW.PrintMore
attribute [local go_sem] max2_int min2_int max_two min_two max_three min_three max_four min_four
set_option linter.unusedVariables false
set_option linter.unusedSimpArgs false
def client_copied.f (a0_0 : ByteArray) (a0_1 : ByteArray) (a0_2 : Int) (a0_3 : Bool) (a0_4 : ByteArray) (l0_5 : List ByteArray) : Option (ByteArray × ByteArray × Int × Bool × ByteArray × List ByteArray) := (slices_Clone_string_string.f l0_5).bind fun t145 => (some (a0_0, a0_1, a0_2, a0_3, a0_4, t145))
set_option maxHeartbeats 8000000 in
set_option maxRecDepth 100000 in
theorem client_copied.calls (a0_0 : ByteArray) (a0_1 : ByteArray) (a0_2 : Int) (a0_3 : Bool) (a0_4 : ByteArray) (A0_5 : Option Addr) (c0_5 : Nat) (l0_5 : List ByteArray) (r1 : ByteArray) (r2 : ByteArray) (r3 : Int) (r4 : Bool) (r5 : ByteArray) (r6 : List ByteArray) (w : World) (hr0_5 : Kd.C Kd.string w A0_5 l0_5.length l0_5) (hc0_5 : l0_5.length ≤ c0_5) (h : client_copied.f a0_0 a0_1 a0_2 a0_3 a0_4 l0_5 = some (r1, r2, r3, r4, r5, r6)) :
 Calls Tryz.prog 61 #[.agg #[.string a0_0, .string a0_1, .int .i64 a0_2, .bool a0_3, .string a0_4, .slice A0_5 l0_5.length c0_5]] w fun e w' => ∃ v5_ : Value, e = .returned (.agg #[.string r1, .string r2, .int .i64 r3, .bool r4, .string r5, v5_]) ∧ Kd.R Kd.string 9 w' w.heap.size (fun _ => True) v5_ r6 ∧ Below w.heap.size w w' := by
 have hu40 := Tryz.underlying40
 have HR0_5 := Aside0.mk hr0_5
 have HC0_5 := Aside0.mk hc0_5
 clear hr0_5 hc0_5
 have HB := Aside0.mk (Below.refl w.heap.size w)
 have H : ((slices_Clone_string_string.f l0_5).bind fun t145 => (some (a0_0, a0_1, a0_2, a0_3, a0_4, t145))) = some (r1, r2, r3, r4, r5, r6) := h
 clear h
 replace H := Option.bind_eq_some_iff.mp H
 obtain ⟨t145, A20, H⟩ := H
 replace H : (some (a0_0, a0_1, a0_2, a0_3, a0_4, t145)) = some (r1, r2, r3, r4, r5, r6) := H
 have A2 := Aside0.mk A20
 clear A20
 simp only [Option.some.injEq, Prod.mk.injEq] at H
 obtain ⟨rfl, rfl, rfl, rfl, rfl, rfl⟩ := H
 go_enter Tryz.func61, Tryz.ntmps61
 go_wp2_with (first | ((with_reducible refine gate_dst (N := 1) rfl ?_); refine box_event ?hg (N := 1) ?hd (cs := #[.string a0_0, .string a0_1, .int .i64 a0_2, .bool a0_3, .string a0_4, .slice A0_5 l0_5.length c0_5]) (t := 40) ?hr ?_; (case hd => rfl); (case hg => rfl); (case hr => (go_simp; done)); intro gb143 hg w3 hbox hb; have BK143 := Aside0.mk hbox; have GW143 := Aside0.mk ((by rw [hg]; exact (below_size HB.out) : w.heap.size ≤ gb143)); have GE143 := Aside0.mk ((by rw [hg]; exact (below_size HB.out) : w.heap.size ≤ gb143)); replace HB := Aside0.mk (below_step HB.out hb); clear hb hbox hg) | ((with_reducible refine gate_dst (N := 2) rfl ?_); refine box_event ?hg (N := 2) ?hd (cs := #[.string (⟨#[]⟩ : ByteArray), .string (⟨#[]⟩ : ByteArray), .int .i64 0, .bool false, .string (⟨#[]⟩ : ByteArray), .slice none 0 0]) (t := 40) ?hr ?_; (case hd => rfl); (case hg => rfl); (case hr => (go_simp; done)); intro gb144 hg w4 hbox hb; have BK144 := Aside0.mk hbox; have GW144 := Aside0.mk ((by rw [hg]; exact (below_size HB.out) : w.heap.size ≤ gb144)); have GE144 := Aside0.mk ((by rw [hg]; exact (below_size HB.out) : w.heap.size ≤ gb144)); replace HB := Aside0.mk (below_step HB.out hb); have NB143_144 := Aside0.mk ((by rw [hg]; exact Nat.ne_of_lt (blk_lt (g := gb143) (o := .cells #[.string a0_0, .string a0_1, .int .i64 a0_2, .bool a0_3, .string a0_4, .slice A0_5 l0_5.length c0_5] 40 (0, 0)) BK143.out) : gb143 ≠ gb144)); have NB144_143 := Aside0.mk ((by rw [hg]; exact Nat.ne_of_gt (blk_lt (g := gb143) (o := .cells #[.string a0_0, .string a0_1, .int .i64 a0_2, .bool a0_3, .string a0_4, .slice A0_5 l0_5.length c0_5] 40 (0, 0)) BK143.out) : gb144 ≠ gb143)); replace BK143 := Aside0.mk (blk_below (g := gb143) (o := .cells #[.string a0_0, .string a0_1, .int .i64 a0_2, .bool a0_3, .string a0_4, .slice A0_5 l0_5.length c0_5] 40 (0, 0)) BK143.out hb); clear hb hbox hg; have hnb5 := NB143_144.out; have hnc5 := NB144_143.out; obtain ⟨hcz6_0, hcz6_1, hcz6_2, hcz6_3, hcz6_4, hcz6_5, hfz6_0, hfz6_1, hfz6_2, hfz6_3, hfz6_4, hfz6_5⟩ := cz6_ BK143.out) | ((with_reducible refine gate_callee (f := 93) rfl ?_); refine goesL_ (some 5) rfl rfl Tryz.func93 (by kernel_rfl) rfl #[.slice A0_5 l0_5.length c0_5] rfl (by ((try simp only [List.map_toArray, List.map_cons, List.map_nil]); (rfl))) ?_; (with_reducible refine (slices_Clone_string_string.calls _ _ l0_5 t145 _ ?side1 ?side2 A2.out).mono ?_); (case side1 => repeat (exact (Kd.C_below HR0_5.out HB.out))); (case side2 => exact HC0_5.out); rintro e w7 ⟨v146, rfl, ho0, hb⟩; refine ⟨_, rfl, ?_⟩; have HO147 := Aside0.mk (Kd.R_lower ho0 (below_size HB.out)); replace BK143 := Aside0.mk (blk_below (g := gb143) (o := .cells #[.string a0_0, .string a0_1, .int .i64 a0_2, .bool a0_3, .string a0_4, .slice A0_5 l0_5.length c0_5] 40 (0, 0)) BK143.out hb); replace BK144 := Aside0.mk (blk_below (g := gb144) (o := .cells #[.string (⟨#[]⟩ : ByteArray), .string (⟨#[]⟩ : ByteArray), .int .i64 0, .bool false, .string (⟨#[]⟩ : ByteArray), .slice none 0 0] 40 (0, 0)) BK144.out hb); replace HB := Aside0.mk (below_step HB.out hb); clear hb ho0; obtain ⟨Ao8, co8, eo8⟩ := Kd.R_slice HO147.out; subst eo8; obtain ⟨hcz9_0, hcz9_1, hcz9_2, hcz9_3, hcz9_4, hcz9_5, hfz9_0, hfz9_1, hfz9_2, hfz9_3, hfz9_4, hfz9_5⟩ := cz6_ BK143.out; obtain ⟨hcz10_0, hcz10_1, hcz10_2, hcz10_3, hcz10_4, hcz10_5, hfz10_0, hfz10_1, hfz10_2, hfz10_3, hfz10_4, hfz10_5⟩ := cz6_ BK144.out))
 refine bodyPost_ret (results_cell_row rfl _ _ gb144 40 #[.string a0_0, .string a0_1, .int .i64 a0_2, .bool a0_3, .string a0_4, .slice Ao8 t145.length co8] (0, 0) _ rfl (by (with_reducible repeat (first | refine blk_drewN ?_ _  | refine blk_drew ?_  | refine blk_alloc ?_ _)); refine blk_put (cs := #[.string a0_0, .string a0_1, .int .i64 a0_2, .bool a0_3, .string a0_4, .slice none 0 0]) ?_ 5 _ rfl; (with_reducible repeat (first | refine blk_drewN ?_ _  | refine blk_drew ?_  | refine blk_alloc ?_ _)); refine blk_put (cs := #[.string a0_0, .string a0_1, .int .i64 a0_2, .bool a0_3, .string (⟨#[]⟩ : ByteArray), .slice none 0 0]) ?_ 4 _ rfl; (with_reducible repeat (first | refine blk_drewN ?_ _  | refine blk_drew ?_  | refine blk_alloc ?_ _)); refine blk_put (cs := #[.string a0_0, .string a0_1, .int .i64 a0_2, .bool false, .string (⟨#[]⟩ : ByteArray), .slice none 0 0]) ?_ 3 _ rfl; (with_reducible repeat (first | refine blk_drewN ?_ _  | refine blk_drew ?_  | refine blk_alloc ?_ _)); refine blk_put (cs := #[.string a0_0, .string a0_1, .int .i64 0, .bool false, .string (⟨#[]⟩ : ByteArray), .slice none 0 0]) ?_ 2 _ rfl; (with_reducible repeat (first | refine blk_drewN ?_ _  | refine blk_drew ?_  | refine blk_alloc ?_ _)); refine blk_put (cs := #[.string a0_0, .string (⟨#[]⟩ : ByteArray), .int .i64 0, .bool false, .string (⟨#[]⟩ : ByteArray), .slice none 0 0]) ?_ 1 _ rfl; (with_reducible repeat (first | refine blk_drewN ?_ _  | refine blk_drew ?_  | refine blk_alloc ?_ _)); refine blk_put (cs := #[.string (⟨#[]⟩ : ByteArray), .string (⟨#[]⟩ : ByteArray), .int .i64 0, .bool false, .string (⟨#[]⟩ : ByteArray), .slice none 0 0]) ?_ 0 _ rfl; (with_reducible repeat (first | refine blk_drewN ?_ _  | refine blk_drew ?_  | refine blk_alloc ?_ _)); refine blk_far ?_ NB144_143.out _; (with_reducible repeat (first | refine blk_drewN ?_ _  | refine blk_drew ?_  | refine blk_alloc ?_ _)); exact BK144.out) Tryz.underlying40 rfl (by kernel_rfl)) rfl ?_
 exact ⟨_, rfl, by (with_reducible repeat (first | apply Kd.R_alloc  | apply Kd.R_drewN  | apply Kd.R_drew)); exact Kd.R_mono (R_far6 (Kd.R_far (p := ⟨gb143, 5, none⟩) (Kd.R_types (Kd.R_types HO147.out BK143.out (by decide)) BK144.out (by decide)) (fun _ hk => hk.1.2) (.slice Ao8 t145.length co8)) (fun _ hk => hk.2)) (fun _ hk => trivial), by (repeat (with_reducible first | exact HB.out | refine below_set ?_ GE143.out | refine below_set ?_ GE144.out))⟩
def client_Find.l0 : Nat → ByteArray → List (S40) → Int → Int → Option (ByteArray × ByteArray × Int × Bool × ByteArray × List ByteArray × Bool)
 | 0, _, _, _, _ => none
 | k + 1, x1, x8, x9, x10 => if x10 < x9 then (if 0 ≤ x10 then (if x10 < (x8.length : Int) then (if ((rd_T40 x8 x10).f0).toList = x1.toList then ((client_copied.f ((rd_T40 x8 x10).f0) ((rd_T40 x8 x10).f1) ((rd_T40 x8 x10).f2) ((rd_T40 x8 x10).f3) ((rd_T40 x8 x10).f4) ((rd_T40 x8 x10).f5)).bind fun bt151 => (some (bt151.1, bt151.2.1, bt151.2.2.1, bt151.2.2.2.1, bt151.2.2.2.2.1, bt151.2.2.2.2.2, true))) else (client_Find.l0 k x1 x8 x9 (wrap64 (x10 + 1)))) else (none)) else (none)) else (some ((⟨#[]⟩ : ByteArray), (⟨#[]⟩ : ByteArray), 0, false, (⟨#[]⟩ : ByteArray), ([] : List ByteArray), false))
def client_Find.f (k : Nat) (l0 : List (S40)) (a1 : ByteArray) : Option (ByteArray × ByteArray × Int × Bool × ByteArray × List ByteArray × Bool) := client_Find.l0 k a1 l0 (l0.length : Int) 0
set_option maxHeartbeats 8000000 in
set_option maxRecDepth 100000 in
theorem client_Find.calls (k : Nat) (A0 : Option Addr) (c0 : Nat) (l0 : List (S40)) (a1 : ByteArray) (r1 : ByteArray) (r2 : ByteArray) (r3 : Int) (r4 : Bool) (r5 : ByteArray) (r6 : List ByteArray) (r7 : Bool) (w : World) (hr0 : Kd.C k40 w A0 l0.length l0) (hc0 : l0.length ≤ c0) (h : client_Find.f k l0 a1 = some (r1, r2, r3, r4, r5, r6, r7)) :
 Calls Tryz.prog 29 #[.slice A0 l0.length c0, .string a1] w fun e w' => ∃ v5_ : Value, e = .returned (.tuple #[.agg #[.string r1, .string r2, .int .i64 r3, .bool r4, .string r5, v5_], .bool r7]) ∧ Kd.R Kd.string 9 w' w.heap.size (fun _ => True) v5_ r6 ∧ Below w.heap.size w w' := by
 have hu40 := Tryz.underlying40
 have HR0 := Aside0.mk hr0
 have HC0 := Aside0.mk hc0
 clear hr0 hc0
 have HB := Aside0.mk (Below.refl w.heap.size w)
 have H : (client_Find.l0 k a1 l0 (l0.length : Int) 0) = some (r1, r2, r3, r4, r5, r6, r7) := h
 clear h
 have H' := Aside0.mk H
 clear H
 go_enter Tryz.func29, Tryz.ntmps29
 go_wp2_with (first | ((with_reducible refine gate_dst (N := 4) rfl ?_); refine box_event ?hg (N := 4) ?hd (cs := #[.string (⟨#[]⟩ : ByteArray), .string (⟨#[]⟩ : ByteArray), .int .i64 0, .bool false, .string (⟨#[]⟩ : ByteArray), .slice none 0 0]) (t := 40) ?hr ?_; (case hd => rfl); (case hg => rfl); (case hr => (go_simp; done)); intro gb148 hg w3 hbox hb; have BK148 := Aside0.mk hbox; have GW148 := Aside0.mk ((by rw [hg]; exact (below_size HB.out) : w.heap.size ≤ gb148)); have GE148 := Aside0.mk ((by rw [hg]; exact (below_size HB.out) : w.heap.size ≤ gb148)); replace HB := Aside0.mk (below_step HB.out hb); clear hb hbox hg))
 go_loopg [10] k (fun kq v10 w' => ∃ (x10_1 : Int) (x149000_1 : ByteArray) (x149001_1 : ByteArray) (x149002_1 : Int) (x149003_1 : Bool) (x149004_1 : ByteArray), v10 = .int .i64 x10_1 ∧ Aside0 (client_Find.l0 kq a1 l0 (l0.length : Int) x10_1 = some (r1, r2, r3, r4, r5, r6, r7)) ∧ Aside0 (kq ≤ k) ∧ Aside0 (w'.heap[gb148]? = some (.cells #[.string x149000_1, .string x149001_1, .int .i64 x149002_1, .bool x149003_1, .string x149004_1, (.slice none 0 0)] 40 (0, 0))) ∧ Aside0 (Below w.heap.size w w'))
 case atStart => exact ⟨(0), ((⟨#[]⟩ : ByteArray)), ((⟨#[]⟩ : ByteArray)), (0), (false), ((⟨#[]⟩ : ByteArray)), rfl, H', ⟨Nat.le_refl _⟩, ⟨BK148.out⟩, ⟨HB.out⟩⟩
 case round =>
  clear H'
  obtain ⟨x10_1, x149000_1, x149001_1, x149002_1, x149003_1, x149004_1, rfl, HA, HK1, BK148, HB⟩ := hrel
  cases gk with
  | zero => exact absurd HA.out (by simp [client_Find.l0])
  | succ k1 =>
   have H := HA.out
   clear HA
   simp only [client_Find.l0] at H
   by_cases c4 : x10_1 < (l0.length : Int)
   · rw [if_pos c4] at H
     have c4b0 : decide (x10_1 < (l0.length : Int)) = true := decide_eq_true c4
     clear c4
     by_cases c5 : 0 ≤ x10_1
     · rw [if_pos c5] at H
       have c5b0 : decide (0 ≤ x10_1) = true := decide_eq_true c5
       clear c5
       by_cases c6 : x10_1 < (l0.length : Int)
       · rw [if_pos c6] at H
         have c6b0 : decide (x10_1 < (l0.length : Int)) = true := decide_eq_true c6
         clear c6
         by_cases c7 : ((rd_T40 l0 x10_1).f0).toList = a1.toList
         · rw [if_pos c7] at H
           have c7b0 : (((rd_T40 l0 x10_1).f0).toList == a1.toList) = true := beq_iff_eq.mpr c7
           have c7b1 : (((rd_T40 l0 x10_1).f0).toList != a1.toList) = false := bne_eq_false_iff_eq.mpr c7
           clear c7
           replace H := Option.bind_eq_some_iff.mp H
           obtain ⟨⟨t151, t152, t153, t154, t155, t156⟩, A80, H⟩ := H
           replace H : (some (t151, t152, t153, t154, t155, t156, true)) = some (r1, r2, r3, r4, r5, r6, r7) := H
           have A8 := Aside0.mk A80
           clear A80
           simp only [Option.some.injEq, Prod.mk.injEq] at H
           obtain ⟨rfl, rfl, rfl, rfl, rfl, rfl, rfl⟩ := H
           have p149 : 0 ≤ (x10_1 : Int) := of_decide_eq_true (by assumption)
           have q149 : x10_1 < (l0.length : Int) := of_decide_eq_true (by assumption)
           obtain ⟨ad149, A149_5, c149_5, e149, hx149_0, hx149_1, hx149_2, hx149_3, hx149_4, hx149_5, hl149_5, hi149_5⟩ := at_T40 HR0.out x10_1 p149 q149
           cases e149
           replace hx149_0 := (HB.out.cell (World.block_lt_of_cell? w _ hx149_0)).trans hx149_0
           replace hx149_1 := (HB.out.cell (World.block_lt_of_cell? w _ hx149_1)).trans hx149_1
           replace hx149_2 := (HB.out.cell (World.block_lt_of_cell? w _ hx149_2)).trans hx149_2
           replace hx149_3 := (HB.out.cell (World.block_lt_of_cell? w _ hx149_3)).trans hx149_3
           replace hx149_4 := (HB.out.cell (World.block_lt_of_cell? w _ hx149_4)).trans hx149_4
           replace hx149_5 := (HB.out.cell (World.block_lt_of_cell? w _ hx149_5)).trans hx149_5
           have HR149_5 := Aside0.mk hi149_5
           have HC149_5 := Aside0.mk hl149_5
           clear hi149_5 hl149_5
           replace p149 := eq_true p149
           replace q149 := eq_true q149
           go_wp2_with (first | ((with_reducible refine gate_dst (N := 7) rfl ?_); refine box_event ?hg (N := 7) ?hd (cs := #[.string (⟨#[]⟩ : ByteArray), .string (⟨#[]⟩ : ByteArray), .int .i64 0, .bool false, .string (⟨#[]⟩ : ByteArray), .slice none 0 0]) (t := 40) ?hr ?_; (case hd => rfl); (case hg => rfl); (case hr => (go_simp; done)); intro gb150 hg w9 hbox hb; have BK150 := Aside0.mk hbox; have GW150 := Aside0.mk ((by rw [hg]; exact (below_size HB.out) : w.heap.size ≤ gb150)); have GE150 := Aside0.mk ((by rw [hg]; exact (below_size HB.out) : w.heap.size ≤ gb150)); replace HB := Aside0.mk (below_step HB.out hb); have NB148_150 := Aside0.mk ((by rw [hg]; exact Nat.ne_of_lt (blk_lt (g := gb148) (o := .cells #[.string x149000_1, .string x149001_1, .int .i64 x149002_1, .bool x149003_1, .string x149004_1, .slice none 0 0] 40 (0, 0)) BK148.out) : gb148 ≠ gb150)); have NB150_148 := Aside0.mk ((by rw [hg]; exact Nat.ne_of_gt (blk_lt (g := gb148) (o := .cells #[.string x149000_1, .string x149001_1, .int .i64 x149002_1, .bool x149003_1, .string x149004_1, .slice none 0 0] 40 (0, 0)) BK148.out) : gb150 ≠ gb148)); replace BK148 := Aside0.mk (blk_below (g := gb148) (o := .cells #[.string x149000_1, .string x149001_1, .int .i64 x149002_1, .bool x149003_1, .string x149004_1, .slice none 0 0] 40 (0, 0)) BK148.out hb); clear hb hbox hg; have hnb10 := NB150_148.out; have hnc10 := NB148_150.out; obtain ⟨hcz11_0, hcz11_1, hcz11_2, hcz11_3, hcz11_4, hcz11_5, hfz11_0, hfz11_1, hfz11_2, hfz11_3, hfz11_4, hfz11_5⟩ := cz6_ BK150.out) | ((with_reducible refine gate_callee (f := 61) rfl ?_); refine goesL_ (some 19) rfl rfl Tryz.func61 (by kernel_rfl) rfl #[.agg #[.string ((rd_T40 l0 x10_1).f0), .string ((rd_T40 l0 x10_1).f1), .int .i64 ((rd_T40 l0 x10_1).f2), .bool ((rd_T40 l0 x10_1).f3), .string ((rd_T40 l0 x10_1).f4), .slice A149_5 ((rd_T40 l0 x10_1).f5).length c149_5]] rfl (by ((try simp only [List.map_toArray, List.map_cons, List.map_nil]); (rfl))) ?_; (with_reducible refine (client_copied.calls ((rd_T40 l0 x10_1).f0) ((rd_T40 l0 x10_1).f1) ((rd_T40 l0 x10_1).f2) ((rd_T40 l0 x10_1).f3) ((rd_T40 l0 x10_1).f4) _ _ ((rd_T40 l0 x10_1).f5) t151 t152 t153 t154 t155 t156 _ ?side1 ?side2 A8.out).mono ?_); (case side1 => exact Kd.C_below HR149_5.out (by (repeat (with_reducible first | exact HB.out | refine below_set ?_ GE150.out)))); (case side2 => exact HC149_5.out); rintro e w12 ⟨v157, rfl, ho0, hb⟩; refine ⟨_, rfl, ?_⟩; have HO158 := Aside0.mk (Kd.R_lower ho0 (below_size (by (repeat (with_reducible first | exact HB.out | refine below_set ?_ GE150.out))))); replace BK148 := Aside0.mk (blk_below (g := gb148) (o := .cells #[.string x149000_1, .string x149001_1, .int .i64 x149002_1, .bool x149003_1, .string x149004_1, .slice none 0 0] 40 (0, 0)) (by (with_reducible repeat (first | refine blk_drewN ?_ _  | refine blk_drew ?_  | refine blk_alloc ?_ _)); refine blk_far ?_ NB148_150.out _; (with_reducible repeat (first | refine blk_drewN ?_ _  | refine blk_drew ?_  | refine blk_alloc ?_ _)); refine blk_far ?_ NB148_150.out _; (with_reducible repeat (first | refine blk_drewN ?_ _  | refine blk_drew ?_  | refine blk_alloc ?_ _)); refine blk_far ?_ NB148_150.out _; (with_reducible repeat (first | refine blk_drewN ?_ _  | refine blk_drew ?_  | refine blk_alloc ?_ _)); refine blk_far ?_ NB148_150.out _; (with_reducible repeat (first | refine blk_drewN ?_ _  | refine blk_drew ?_  | refine blk_alloc ?_ _)); refine blk_far ?_ NB148_150.out _; (with_reducible repeat (first | refine blk_drewN ?_ _  | refine blk_drew ?_  | refine blk_alloc ?_ _)); refine blk_far ?_ NB148_150.out _; (with_reducible repeat (first | refine blk_drewN ?_ _  | refine blk_drew ?_  | refine blk_alloc ?_ _)); exact BK148.out) hb); replace BK150 := Aside0.mk (blk_below (g := gb150) (o := .cells #[.string ((rd_T40 l0 x10_1).f0), .string ((rd_T40 l0 x10_1).f1), .int .i64 ((rd_T40 l0 x10_1).f2), .bool ((rd_T40 l0 x10_1).f3), .string ((rd_T40 l0 x10_1).f4), .slice A149_5 ((rd_T40 l0 x10_1).f5).length c149_5] 40 (0, 0)) (put6_ BK150.out _ _ _ _ _ _) hb); replace HB := Aside0.mk (below_step (by (repeat (with_reducible first | exact HB.out | refine below_set ?_ GE150.out))) hb); clear hb ho0; obtain ⟨hcz13_0, hcz13_1, hcz13_2, hcz13_3, hcz13_4, hcz13_5, hfz13_0, hfz13_1, hfz13_2, hfz13_3, hfz13_4, hfz13_5⟩ := cz6_ BK148.out; obtain ⟨Ao14, co14, eo14⟩ := Kd.R_slice HO158.out; subst eo14))
           refine bodyPost_ret (results_ct rfl _ _ gb148 40 #[.string t151, .string t152, .int .i64 t153, .bool t154, .string t155, .slice Ao14 t156.length co14] (0, 0) _ rfl (put6_ BK148.out _ _ _ _ _ _) Tryz.underlying40 rfl (by kernel_rfl)) rfl ?_
           exact ⟨_, rfl, by (with_reducible repeat (first | apply Kd.R_alloc  | apply Kd.R_drewN  | apply Kd.R_drew)); exact Kd.R_mono (R_far6 (Kd.R_types HO158.out BK148.out (by decide)) (fun _ hk => hk.2)) (fun _ hk => trivial), by (repeat (with_reducible first | exact HB.out | refine below_set ?_ GE148.out))⟩
         · rw [if_neg c7] at H
           have c7b0 : (((rd_T40 l0 x10_1).f0).toList == a1.toList) = false := beq_eq_false_iff_ne.mpr c7
           have c7b1 : (((rd_T40 l0 x10_1).f0).toList != a1.toList) = true := bne_iff_ne.mpr c7
           have H' := Aside0.mk H
           clear H
           have p149 : 0 ≤ (x10_1 : Int) := of_decide_eq_true (by assumption)
           have q149 : x10_1 < (l0.length : Int) := of_decide_eq_true (by assumption)
           obtain ⟨ad149, A149_5, c149_5, e149, hx149_0, hx149_1, hx149_2, hx149_3, hx149_4, hx149_5, hl149_5, hi149_5⟩ := at_T40 HR0.out x10_1 p149 q149
           cases e149
           replace hx149_0 := (HB.out.cell (World.block_lt_of_cell? w _ hx149_0)).trans hx149_0
           replace hx149_1 := (HB.out.cell (World.block_lt_of_cell? w _ hx149_1)).trans hx149_1
           replace hx149_2 := (HB.out.cell (World.block_lt_of_cell? w _ hx149_2)).trans hx149_2
           replace hx149_3 := (HB.out.cell (World.block_lt_of_cell? w _ hx149_3)).trans hx149_3
           replace hx149_4 := (HB.out.cell (World.block_lt_of_cell? w _ hx149_4)).trans hx149_4
           replace hx149_5 := (HB.out.cell (World.block_lt_of_cell? w _ hx149_5)).trans hx149_5
           have HR149_5 := Aside0.mk hi149_5
           have HC149_5 := Aside0.mk hl149_5
           clear hi149_5 hl149_5
           replace p149 := eq_true p149
           replace q149 := eq_true q149
           go_wp2_with (first | ((with_reducible refine gate_dst (N := 7) rfl ?_); refine box_event ?hg (N := 7) ?hd (cs := #[.string (⟨#[]⟩ : ByteArray), .string (⟨#[]⟩ : ByteArray), .int .i64 0, .bool false, .string (⟨#[]⟩ : ByteArray), .slice none 0 0]) (t := 40) ?hr ?_; (case hd => rfl); (case hg => rfl); (case hr => (go_simp; done)); intro gb150 hg w15 hbox hb; have BK150 := Aside0.mk hbox; have GW150 := Aside0.mk ((by rw [hg]; exact (below_size HB.out) : w.heap.size ≤ gb150)); have GE150 := Aside0.mk ((by rw [hg]; exact (below_size HB.out) : w.heap.size ≤ gb150)); replace HB := Aside0.mk (below_step HB.out hb); have NB148_150 := Aside0.mk ((by rw [hg]; exact Nat.ne_of_lt (blk_lt (g := gb148) (o := .cells #[.string x149000_1, .string x149001_1, .int .i64 x149002_1, .bool x149003_1, .string x149004_1, .slice none 0 0] 40 (0, 0)) BK148.out) : gb148 ≠ gb150)); have NB150_148 := Aside0.mk ((by rw [hg]; exact Nat.ne_of_gt (blk_lt (g := gb148) (o := .cells #[.string x149000_1, .string x149001_1, .int .i64 x149002_1, .bool x149003_1, .string x149004_1, .slice none 0 0] 40 (0, 0)) BK148.out) : gb150 ≠ gb148)); replace BK148 := Aside0.mk (blk_below (g := gb148) (o := .cells #[.string x149000_1, .string x149001_1, .int .i64 x149002_1, .bool x149003_1, .string x149004_1, .slice none 0 0] 40 (0, 0)) BK148.out hb); clear hb hbox hg; have hnb16 := NB150_148.out; have hnc16 := NB148_150.out; obtain ⟨hcz17_0, hcz17_1, hcz17_2, hcz17_3, hcz17_4, hcz17_5, hfz17_0, hfz17_1, hfz17_2, hfz17_3, hfz17_4, hfz17_5⟩ := cz6_ BK150.out))
           go_roundg k1
           case measure => have := HK1.out; omega
           case rel => exact ⟨(wrap64 (x10_1 + 1)), (x149000_1), (x149001_1), (x149002_1), (x149003_1), (x149004_1), rfl, H', ⟨by have := HK1.out; omega⟩, ⟨by (with_reducible repeat (first | refine blk_drewN ?_ _  | refine blk_drew ?_  | refine blk_alloc ?_ _)); refine blk_far ?_ NB148_150.out _; (with_reducible repeat (first | refine blk_drewN ?_ _  | refine blk_drew ?_  | refine blk_alloc ?_ _)); refine blk_far ?_ NB148_150.out _; (with_reducible repeat (first | refine blk_drewN ?_ _  | refine blk_drew ?_  | refine blk_alloc ?_ _)); refine blk_far ?_ NB148_150.out _; (with_reducible repeat (first | refine blk_drewN ?_ _  | refine blk_drew ?_  | refine blk_alloc ?_ _)); refine blk_far ?_ NB148_150.out _; (with_reducible repeat (first | refine blk_drewN ?_ _  | refine blk_drew ?_  | refine blk_alloc ?_ _)); refine blk_far ?_ NB148_150.out _; (with_reducible repeat (first | refine blk_drewN ?_ _  | refine blk_drew ?_  | refine blk_alloc ?_ _)); refine blk_far ?_ NB148_150.out _; (with_reducible repeat (first | refine blk_drewN ?_ _  | refine blk_drew ?_  | refine blk_alloc ?_ _)); exact BK148.out⟩, ⟨by (repeat (with_reducible first | exact HB.out | refine below_set ?_ GE150.out))⟩⟩
       · rw [if_neg c6] at H
         exact absurd H (by simp)
     · rw [if_neg c5] at H
       exact absurd H (by simp)
   · rw [if_neg c4] at H
     have c4b0 : decide (x10_1 < (l0.length : Int)) = false := decide_eq_false c4
     clear c4
     simp only [Option.some.injEq, Prod.mk.injEq] at H
     obtain ⟨rfl, rfl, rfl, rfl, rfl, rfl, rfl⟩ := H
     obtain ⟨hcz18_0, hcz18_1, hcz18_2, hcz18_3, hcz18_4, hcz18_5, hfz18_0, hfz18_1, hfz18_2, hfz18_3, hfz18_4, hfz18_5⟩ := cz6_ BK148.out
     go_wp2
     refine bodyPost_ret (results_ct rfl _ _ gb148 40 #[.string (⟨#[]⟩ : ByteArray), .string (⟨#[]⟩ : ByteArray), .int .i64 0, .bool false, .string (⟨#[]⟩ : ByteArray), .slice none 0 0] (0, 0) _ rfl (put6_ BK148.out _ _ _ _ _ _) Tryz.underlying40 rfl (by kernel_rfl)) rfl ?_
     exact ⟨_, rfl, by (exact Kd.R_nil _ _ _ _ _), by (repeat (with_reducible first | exact HB.out | refine below_set ?_ GE148.out))⟩
mutual
def client_Parse.l0 : Nat → List (S40) → List ByteArray → Int → Int → Option ((List (S40)) × Int × Int)
 | 0, _, _, _, _ => none
 | k + 1, x5, x16, x17, x18 => if x18 < x17 then (if 0 ≤ x18 then (if x18 < (x16.length : Int) then (if (rdOf ByteArray.empty x16 x18).toList = ([] : List UInt8) then (client_Parse.j1 k x5 x18 (rdOf ByteArray.empty x16 x18) x16 x17 x18 true) else (if 0 < ((rdOf ByteArray.empty x16 x18).size : Int) then (client_Parse.j1 k x5 x18 (rdOf ByteArray.empty x16 x18) x16 x17 x18 ((bt (rdOf ByteArray.empty x16 x18) 0) == 35)) else (none))) else (none)) else (none)) else (some (x5, 0, 0))
def client_Parse.j1 : Nat → List (S40) → Int → ByteArray → List ByteArray → Int → Int → Bool → Option ((List (S40)) × Int × Int)
 | 0, _, _, _, _, _, _, _ => none
 | k + 1, x5, x6, x7, x16, x17, x18, x29 => if x29 = true then (client_Parse.l0 k x5 x16 x17 (wrap64 (x18 + 1))) else ((client_parseLine.f x7).bind fun bt163 => (if bt163.2.2.2.2.2.2 = true then ((client_Find.f k x5 bt163.1).bind fun bt173 => (if bt173.2.2.2.2.2.2 = true then (some (([] : List (S40)), 8, wrap64 (x6 + 1))) else (if (x5.length : Int) = 256 then (some (([] : List (S40)), 32, wrap64 (x6 + 1))) else (if x5.length < 1599289640401 then (client_Parse.l0 k (x5 ++ [(⟨bt163.1, bt163.2.1, bt163.2.2.1, bt163.2.2.2.1, bt163.2.2.2.2.1, bt163.2.2.2.2.2.1⟩ : S40)]) x16 x17 (wrap64 (x18 + 1))) else (none))))) else (some (([] : List (S40)), 110, wrap64 (x6 + 1)))))
end
def client_Parse.f (k : Nat) (a0 : ByteArray) : Option ((List (S40)) × Int × Int) := if (a0.size : Int) > 65536 then (some (([] : List (S40)), 1, 0)) else ((strings_Split.f a0 (⟨#[10]⟩ : ByteArray)).bind fun t159 => (client_Parse.l0 k ([] : List (S40)) t159 (t159.length : Int) 0))
set_option maxHeartbeats 8000000 in
set_option maxRecDepth 100000 in
theorem client_Parse.calls (k : Nat) (a0 : ByteArray) (r1 : List (S40)) (r2 : Int) (r3 : Int) (w : World) (h : client_Parse.f k a0 = some (r1, r2, r3)) :
 Calls Tryz.prog 22 #[.string a0] w fun e w' => ∃ v0_ : Value, e = .returned (.tuple #[v0_, .int .i64 r2, .int .i64 r3]) ∧ Kd.S k40 40 w' w.heap.size (fun _ => True) v0_ r1 ∧ Below w.heap.size w w' := by
 have hu40 := Tryz.underlying40
 have HB := Aside0.mk (Below.refl w.heap.size w)
 have H : (if (a0.size : Int) > 65536 then (some (([] : List (S40)), 1, 0)) else ((strings_Split.f a0 (⟨#[10]⟩ : ByteArray)).bind fun t159 => (client_Parse.l0 k ([] : List (S40)) t159 (t159.length : Int) 0))) = some (r1, r2, r3) := h
 clear h
 by_cases c2 : (a0.size : Int) > 65536
 · rw [if_pos c2] at H
   have c2b0 : decide (65536 < (a0.size : Int)) = true := decide_eq_true c2
   have c2b1 : decide (65536 < a0.size) = true := decide_eq_true (by omega)
   clear c2
   simp only [Option.some.injEq, Prod.mk.injEq] at H
   obtain ⟨rfl, rfl, rfl⟩ := H
   go_enter Tryz.func22, Tryz.ntmps22
   go_wp2
   go_ret3
   exact ⟨_, rfl, by (exact Kd.S_nil _ _ _ _ _), by (with_reducible exact HB.out)⟩
 · rw [if_neg c2] at H
   have c2b0 : decide (65536 < (a0.size : Int)) = false := decide_eq_false c2
   have c2b1 : decide (65536 < a0.size) = false := decide_eq_false (by omega)
   clear c2
   replace H := Option.bind_eq_some_iff.mp H
   obtain ⟨t159, A30, H⟩ := H
   replace H : (client_Parse.l0 k ([] : List (S40)) t159 (t159.length : Int) 0) = some (r1, r2, r3) := H
   have A3 := Aside0.mk A30
   clear A30
   have H' := Aside0.mk H
   clear H
   go_enter Tryz.func22, Tryz.ntmps22
   go_wp2_with (first | ((with_reducible refine gate_callee (f := 50) rfl ?_); refine goesL_ (some 16) rfl rfl Tryz.func50 (by kernel_rfl) rfl #[.string a0, .string (⟨#[10]⟩ : ByteArray)] rfl (by ((try simp only [List.map_toArray, List.map_cons, List.map_nil]); (rfl))) ?_; (with_reducible refine (strings_Split.calls a0 (⟨#[10]⟩ : ByteArray) t159 _ A3.out).mono ?_); rintro e w4 ⟨v160, rfl, ho0, hb⟩; refine ⟨_, rfl, ?_⟩; have HO161 := Aside0.mk (Kd.R_lower ho0 (below_size HB.out)); replace HB := Aside0.mk (below_step HB.out hb); clear hb ho0; obtain ⟨Ao5, co5, eo5⟩ := Kd.R_slice HO161.out; subst eo5))
   go_loopg [5, 18] k (fun kq v5 v18 w' => ∃ (x5_1 : List (S40)) (x18_1 : Int), v18 = .int .i64 x18_1 ∧ Aside0 (client_Parse.l0 kq x5_1 t159 (t159.length : Int) x18_1 = some (r1, r2, r3)) ∧ Aside0 (kq ≤ k) ∧ Aside0 (Kd.S k40 40 w' w.heap.size (fun k_ => some k_ ≠ ((.slice Ao5 t159.length co5) : Value).ownBlock) v5 x5_1) ∧ Aside0 (Kd.R Kd.string 9 w' w.heap.size (fun _ => True) (.slice Ao5 t159.length co5) t159) ∧ Aside0 (Below w.heap.size w w'))
   case atStart => exact ⟨(([] : List (S40))), (0), rfl, H', ⟨Nat.le_refl _⟩, ⟨by (exact Kd.S_nil _ _ _ _ _)⟩, ⟨HO161.out⟩, ⟨HB.out⟩⟩
   case round =>
    clear H' c2b0 c2b1
    obtain ⟨x5_1, x18_1, rfl, HA, HK1, HO_5, HO_16, HB⟩ := hrel
    cases gk with
    | zero => exact absurd HA.out (by simp [client_Parse.l0])
    | succ k1 =>
     have H := HA.out
     clear HA
     simp only [client_Parse.l0] at H
     by_cases c6 : x18_1 < (t159.length : Int)
     · rw [if_pos c6] at H
       have c6b0 : decide (x18_1 < (t159.length : Int)) = true := decide_eq_true c6
       clear c6
       by_cases c7 : 0 ≤ x18_1
       · rw [if_pos c7] at H
         have c7b0 : decide (0 ≤ x18_1) = true := decide_eq_true c7
         clear c7
         by_cases c8 : x18_1 < (t159.length : Int)
         · rw [if_pos c8] at H
           have c8b0 : decide (x18_1 < (t159.length : Int)) = true := decide_eq_true c8
           clear c8
           have HC9 := Aside0.mk H
           clear H
           have p162 : 0 ≤ (x18_1 : Int) := of_decide_eq_true (by assumption)
           have q162 : x18_1 < (t159.length : Int) := of_decide_eq_true (by assumption)
           obtain ⟨ad162, e162, hx162_0⟩ := Kd.at_string (Kd.R_reads' HO_16.out).2.2 x18_1 p162 q162
           cases e162
           replace p162 := eq_true p162
           replace q162 := eq_true q162
           go_upto_region 7 with (fail)
           go_cut [29] (fun v29 wc => ∃ (kq : Nat) (x29_8 : Bool), v29 = .bool x29_8 ∧ Aside0 (client_Parse.j1 kq x5_1 x18_1 (rdOf ByteArray.empty t159 x18_1) t159 (t159.length : Int) x18_1 x29_8 = some (r1, r2, r3)) ∧ Aside0 (kq ≤ k1) ∧ Aside0 (Kd.S k40 40 wc w.heap.size (fun k_ => some k_ ≠ ((.slice (some ad162) t159.length co5) : Value).ownBlock) u5 x5_1) ∧ Aside0 (Kd.R Kd.string 9 wc w.heap.size (fun _ => True) (.slice (some ad162) t159.length co5) t159) ∧ Aside0 (Below w.heap.size w wc))
           case first =>
            have H := HC9.out
            clear HC9
            by_cases c10 : (rdOf ByteArray.empty t159 x18_1).toList = ([] : List UInt8)
            · rw [if_pos c10] at H
              have c10b0 : ((rdOf ByteArray.empty t159 x18_1).toList == ([] : List UInt8)) = true := beq_iff_eq.mpr c10
              have c10b1 : ((rdOf ByteArray.empty t159 x18_1).toList != ([] : List UInt8)) = false := bne_eq_false_iff_eq.mpr c10
              clear c10
              have H' := Aside0.mk H
              clear H
              go_wp2
              go_meet
              case rel => exact ⟨_, (true), rfl, H', ⟨by have := HK1.out; (omega)⟩, ⟨HO_5.out⟩, ⟨HO_16.out⟩, ⟨HB.out⟩⟩
            · rw [if_neg c10] at H
              have c10b0 : ((rdOf ByteArray.empty t159 x18_1).toList == ([] : List UInt8)) = false := beq_eq_false_iff_ne.mpr c10
              have c10b1 : ((rdOf ByteArray.empty t159 x18_1).toList != ([] : List UInt8)) = true := bne_iff_ne.mpr c10
              by_cases c11 : 0 < ((rdOf ByteArray.empty t159 x18_1).size : Int)
              · rw [if_pos c11] at H
                have c11b0 : decide (0 < ((rdOf ByteArray.empty t159 x18_1).size : Int)) = true := decide_eq_true c11
                have c11b1 : decide (0 < (rdOf ByteArray.empty t159 x18_1).size) = true := decide_eq_true (by omega)
                clear c11
                have H' := Aside0.mk H
                clear H
                have p12 : 0 ≤ (0 : Int) := (by omega)
                have q12 : 0 < (rdOf ByteArray.empty t159 x18_1).size := (by have : (0 : Int) < ((rdOf ByteArray.empty t159 x18_1).size : Int) := of_decide_eq_true (by assumption); omega)
                have hx12 : ∀ h : 0 < (rdOf ByteArray.empty t159 x18_1).size, (((rdOf ByteArray.empty t159 x18_1)[0]'h).toNat : Int) = bt (rdOf ByteArray.empty t159 x18_1) 0 := bt_at (rdOf ByteArray.empty t159 x18_1) 0
                clear p12
                have qi12 : (0 < ((rdOf ByteArray.empty t159 x18_1).size : Int)) = True := eq_true (of_decide_eq_true (by assumption))
                replace q12 := eq_true q12
                go_wp2
                go_meet
                case rel => exact ⟨_, (((bt (rdOf ByteArray.empty t159 x18_1) 0) == 35)), rfl, H', ⟨by have := HK1.out; (omega)⟩, ⟨HO_5.out⟩, ⟨HO_16.out⟩, ⟨HB.out⟩⟩
              · rw [if_neg c11] at H
                exact absurd H (by simp)
           case rest =>
            clear HC9 c6b0 c7b0 c8b0 hx162_0 p162 q162
            obtain ⟨kq, x29_8, rfl, HA, HJ8, HO_5, HO_16, HB⟩ := hcut
            cases kq with
            | zero => exact absurd HA.out (by simp [client_Parse.j1])
            | succ kj8 =>
             have H := HA.out
             clear HA
             simp only [client_Parse.j1] at H
             by_cases c13 : x29_8 = true
             · subst c13
               have H1 : (client_Parse.l0 kj8 x5_1 t159 (t159.length : Int) (wrap64 (x18_1 + 1))) = some (r1, r2, r3) := by rw [if_pos rfl] at H; exact H
               clear H
               have H := H1
               clear H1
               have H' := Aside0.mk H
               clear H
               go_wp2
               go_roundg kj8
               case measure => have := HK1.out; have := HJ8.out; omega
               case rel => exact ⟨(x5_1), (wrap64 (x18_1 + 1)), rfl, H', ⟨by have := HK1.out; have := HJ8.out; omega⟩, ⟨HO_5.out⟩, ⟨HO_16.out⟩, ⟨HB.out⟩⟩
             · replace c13 := Bool.eq_false_iff.mpr c13
               subst c13
               have H1 : ((client_parseLine.f (rdOf ByteArray.empty t159 x18_1)).bind fun bt163 => (if bt163.2.2.2.2.2.2 = true then ((client_Find.f kj8 x5_1 bt163.1).bind fun bt173 => (if bt173.2.2.2.2.2.2 = true then (some (([] : List (S40)), 8, wrap64 (x18_1 + 1))) else (if (x5_1.length : Int) = 256 then (some (([] : List (S40)), 32, wrap64 (x18_1 + 1))) else (if x5_1.length < 1599289640401 then (client_Parse.l0 kj8 (x5_1 ++ [(⟨bt163.1, bt163.2.1, bt163.2.2.1, bt163.2.2.2.1, bt163.2.2.2.2.1, bt163.2.2.2.2.2.1⟩ : S40)]) t159 (t159.length : Int) (wrap64 (x18_1 + 1))) else (none))))) else (some (([] : List (S40)), 110, wrap64 (x18_1 + 1))))) = some (r1, r2, r3) := by rw [if_neg (show ¬ (false = true) by decide)] at H; exact H
               clear H
               have H := H1
               clear H1
               replace H := Option.bind_eq_some_iff.mp H
               obtain ⟨⟨t163, t164, t165, t166, t167, t168, t171⟩, A140, H⟩ := H
               replace H : (if t171 = true then ((client_Find.f kj8 x5_1 t163).bind fun bt173 => (if bt173.2.2.2.2.2.2 = true then (some (([] : List (S40)), 8, wrap64 (x18_1 + 1))) else (if (x5_1.length : Int) = 256 then (some (([] : List (S40)), 32, wrap64 (x18_1 + 1))) else (if x5_1.length < 1599289640401 then (client_Parse.l0 kj8 (x5_1 ++ [(⟨t163, t164, t165, t166, t167, t168⟩ : S40)]) t159 (t159.length : Int) (wrap64 (x18_1 + 1))) else (none))))) else (some (([] : List (S40)), 110, wrap64 (x18_1 + 1)))) = some (r1, r2, r3) := H
               have A14 := Aside0.mk A140
               clear A140
               by_cases c15 : t171 = true
               · subst c15
                 have H1 : ((client_Find.f kj8 x5_1 t163).bind fun bt173 => (if bt173.2.2.2.2.2.2 = true then (some (([] : List (S40)), 8, wrap64 (x18_1 + 1))) else (if (x5_1.length : Int) = 256 then (some (([] : List (S40)), 32, wrap64 (x18_1 + 1))) else (if x5_1.length < 1599289640401 then (client_Parse.l0 kj8 (x5_1 ++ [(⟨t163, t164, t165, t166, t167, t168⟩ : S40)]) t159 (t159.length : Int) (wrap64 (x18_1 + 1))) else (none))))) = some (r1, r2, r3) := by rw [if_pos rfl] at H; exact H
                 clear H
                 have H := H1
                 clear H1
                 replace H := Option.bind_eq_some_iff.mp H
                 obtain ⟨⟨t173, t174, t175, t176, t177, t178, t181⟩, A160, H⟩ := H
                 replace H : (if t181 = true then (some (([] : List (S40)), 8, wrap64 (x18_1 + 1))) else (if (x5_1.length : Int) = 256 then (some (([] : List (S40)), 32, wrap64 (x18_1 + 1))) else (if x5_1.length < 1599289640401 then (client_Parse.l0 kj8 (x5_1 ++ [(⟨t163, t164, t165, t166, t167, t168⟩ : S40)]) t159 (t159.length : Int) (wrap64 (x18_1 + 1))) else (none)))) = some (r1, r2, r3) := H
                 have A16 := Aside0.mk A160
                 clear A160
                 by_cases c17 : t181 = true
                 · subst c17
                   have H1 : (some (([] : List (S40)), 8, wrap64 (x18_1 + 1))) = some (r1, r2, r3) := by rw [if_pos rfl] at H; exact H
                   clear H
                   have H := H1
                   clear H1
                   simp only [Option.some.injEq, Prod.mk.injEq] at H
                   obtain ⟨rfl, rfl, rfl⟩ := H
                   go_wp2_with (first | ((with_reducible refine gate_callee (f := 51) rfl ?_); refine goesL_ (some 32) rfl rfl Tryz.func51 (by kernel_rfl) rfl #[.string (rdOf ByteArray.empty t159 x18_1)] rfl (by ((try simp only [List.map_toArray, List.map_cons, List.map_nil]); (rfl))) ?_; (with_reducible refine (client_parseLine.calls (rdOf ByteArray.empty t159 x18_1) t163 t164 t165 t166 t167 t168 true _ A14.out).mono ?_); rintro e w18 ⟨v169, rfl, ho0, hb⟩; refine ⟨_, rfl, ?_⟩; replace HO_5 := Aside0.mk (Kd.S_elder' HO_5.out (Kd.R_base ho0) hb); have HO170 := Aside0.mk (Kd.R_lower (Kd.R_new' ho0 (Kd.R_lt HO_16.out)) (below_size HB.out)); replace HO_16 := Aside0.mk (Kd.R_elder' HO_16.out (Kd.R_base ho0) hb); replace HB := Aside0.mk (below_step HB.out hb); clear hb ho0) | ((with_reducible refine gate_dst (N := 8) rfl ?_); refine box_event ?hg (N := 8) ?hd (cs := #[.string (⟨#[]⟩ : ByteArray), .string (⟨#[]⟩ : ByteArray), .int .i64 0, .bool false, .string (⟨#[]⟩ : ByteArray), .slice none 0 0]) (t := 40) ?hr ?_; (case hd => rfl); (case hg => rfl); (case hr => (go_simp; done)); intro gb172 hg w19 hbox hb; replace HO_5 := Aside0.mk (Kd.S_below (Kd.S_elderB HO_5.out gb172 (Nat.le_of_eq hg.symm)) hb); replace HO_16 := Aside0.mk (Kd.R_below HO_16.out hb); replace HO170 := Aside0.mk (Kd.R_below HO170.out hb); have BK172 := Aside0.mk hbox; have GW172 := Aside0.mk ((by rw [hg]; exact (below_size HB.out) : w.heap.size ≤ gb172)); have GE172 := Aside0.mk ((by rw [hg]; exact (below_size HB.out) : w.heap.size ≤ gb172)); replace HB := Aside0.mk (below_step HB.out hb); clear hb hbox hg; obtain ⟨hcz20_0, hcz20_1, hcz20_2, hcz20_3, hcz20_4, hcz20_5, hfz20_0, hfz20_1, hfz20_2, hfz20_3, hfz20_4, hfz20_5⟩ := cz6_ BK172.out; obtain ⟨Ao21, co21, eo21⟩ := Kd.R_slice HO170.out; subst eo21; obtain ⟨Ao22, co22, eo22⟩ := Kd.S_slice HO_5.out; subst eo22) | ((with_reducible refine gate_callee (f := 29) rfl ?_); refine goesL_ (some 43) rfl rfl Tryz.func29 (by kernel_rfl) rfl #[.slice Ao22 x5_1.length co22, .string t163] rfl (by ((try simp only [List.map_toArray, List.map_cons, List.map_nil]); (rfl))) ?_; (with_reducible refine (client_Find.calls kj8 _ _ x5_1 t163 t173 t174 t175 t176 t177 t178 true _ ?side1 ?side2 A16.out).mono ?_); (case side1 => refine (Kd.S_reads' (e := 40) (base := w.heap.size) (ok := fun k_ => ((some k_ ≠ (.slice (some ad162) t159.length co5 : Value).ownBlock ∧ some k_ ≠ (.slice Ao21 t168.length co21 : Value).ownBlock) ∧ k_ ≠ gb172)) (n := x5_1.length) (c := co22) ?_).2.2; exact (Kd.S_mono (S_far6 (Kd.S_mono HO_5.out (fun k_ hk => (⟨hk, hk.2⟩ : _ ∧ k_ ≠ gb172))) (fun _ hk => hk.2)) (fun _ h_ => h_.1))); (case side2 => exact (Kd.S_reads' HO_5.out).2.1); rintro e w23 ⟨v179, rfl, ho0, hb⟩; refine ⟨_, rfl, ?_⟩; replace HO_5 := Aside0.mk (Kd.S_elder' (Kd.S_mono (S_far6 (Kd.S_mono HO_5.out (fun k_ hk => (⟨hk, hk.2⟩ : _ ∧ k_ ≠ gb172))) (fun _ hk => hk.2)) (fun _ h_ => h_.1)) (Kd.R_base ho0) hb); have HO180 := Aside0.mk (Kd.R_lower (Kd.R_new' (Kd.R_new' ho0 (Kd.R_lt (Kd.R_mono (R_far6 (Kd.R_types HO_16.out BK172.out (by decide)) (fun _ hk => hk.2)) (fun _ h_ => h_.1)))) (Kd.R_lt (Kd.R_mono (R_far6 (Kd.R_types HO170.out BK172.out (by decide)) (fun _ hk => hk.2)) (fun _ h_ => h_.1)))) (below_size (by (repeat (with_reducible first | exact HB.out | refine below_set ?_ GE172.out))))); replace HO_16 := Aside0.mk (Kd.R_elder' (Kd.R_mono (R_far6 (Kd.R_types HO_16.out BK172.out (by decide)) (fun _ hk => hk.2)) (fun _ h_ => h_.1)) (Kd.R_base ho0) hb); replace HO170 := Aside0.mk (Kd.R_elder' (Kd.R_mono (R_far6 (Kd.R_types HO170.out BK172.out (by decide)) (fun _ hk => hk.2)) (fun _ h_ => h_.1)) (Kd.R_base ho0) hb); replace BK172 := Aside0.mk (blk_below (g := gb172) (o := .cells #[.string t163, .string t164, .int .i64 t165, .bool t166, .string t167, .slice Ao21 t168.length co21] 40 (0, 0)) (put6_ BK172.out _ _ _ _ _ _) hb); replace HB := Aside0.mk (below_step (by (repeat (with_reducible first | exact HB.out | refine below_set ?_ GE172.out))) hb); clear hb ho0) | ((with_reducible refine gate_dst (N := 10) rfl ?_); refine box_event ?hg (N := 10) ?hd (cs := #[.string (⟨#[]⟩ : ByteArray), .string (⟨#[]⟩ : ByteArray), .int .i64 0, .bool false, .string (⟨#[]⟩ : ByteArray), .slice none 0 0]) (t := 40) ?hr ?_; (case hd => rfl); (case hg => rfl); (case hr => (go_simp; done)); intro gb182 hg w24 hbox hb; replace HO_5 := Aside0.mk (Kd.S_below (Kd.S_elderB HO_5.out gb182 (Nat.le_of_eq hg.symm)) hb); replace HO_16 := Aside0.mk (Kd.R_below HO_16.out hb); replace HO170 := Aside0.mk (Kd.R_below HO170.out hb); replace HO180 := Aside0.mk (Kd.R_below HO180.out hb); have BK182 := Aside0.mk hbox; have GW182 := Aside0.mk ((by rw [hg]; exact (below_size HB.out) : w.heap.size ≤ gb182)); have GE182 := Aside0.mk ((by rw [hg]; exact (below_size HB.out) : w.heap.size ≤ gb182)); replace HB := Aside0.mk (below_step HB.out hb); have NB172_182 := Aside0.mk ((by rw [hg]; exact Nat.ne_of_lt (blk_lt (g := gb172) (o := .cells #[.string t163, .string t164, .int .i64 t165, .bool t166, .string t167, .slice Ao21 t168.length co21] 40 (0, 0)) BK172.out) : gb172 ≠ gb182)); have NB182_172 := Aside0.mk ((by rw [hg]; exact Nat.ne_of_gt (blk_lt (g := gb172) (o := .cells #[.string t163, .string t164, .int .i64 t165, .bool t166, .string t167, .slice Ao21 t168.length co21] 40 (0, 0)) BK172.out) : gb182 ≠ gb172)); replace BK172 := Aside0.mk (blk_below (g := gb172) (o := .cells #[.string t163, .string t164, .int .i64 t165, .bool t166, .string t167, .slice Ao21 t168.length co21] 40 (0, 0)) BK172.out hb); clear hb hbox hg; have hnb25 := NB182_172.out; have hnc25 := NB172_182.out; obtain ⟨hcz26_0, hcz26_1, hcz26_2, hcz26_3, hcz26_4, hcz26_5, hfz26_0, hfz26_1, hfz26_2, hfz26_3, hfz26_4, hfz26_5⟩ := cz6_ BK182.out; obtain ⟨Ao27, co27, eo27⟩ := Kd.R_slice HO180.out; subst eo27))
                   go_ret3
                   exact ⟨_, rfl, by (exact Kd.S_nil _ _ _ _ _), by (repeat (with_reducible first | exact HB.out | refine below_set ?_ GE182.out))⟩
                 · replace c17 := Bool.eq_false_iff.mpr c17
                   subst c17
                   have H1 : (if (x5_1.length : Int) = 256 then (some (([] : List (S40)), 32, wrap64 (x18_1 + 1))) else (if x5_1.length < 1599289640401 then (client_Parse.l0 kj8 (x5_1 ++ [(⟨t163, t164, t165, t166, t167, t168⟩ : S40)]) t159 (t159.length : Int) (wrap64 (x18_1 + 1))) else (none))) = some (r1, r2, r3) := by rw [if_neg (show ¬ (false = true) by decide)] at H; exact H
                   clear H
                   have H := H1
                   clear H1
                   by_cases c28 : (x5_1.length : Int) = 256
                   · rw [if_pos c28] at H
                     have c28b0 : ((x5_1.length : Int) == 256) = true := beq_iff_eq.mpr c28
                     have c28b1 : ((x5_1.length : Int) != 256) = false := bne_eq_false_iff_eq.mpr c28
                     clear c28
                     simp only [Option.some.injEq, Prod.mk.injEq] at H
                     obtain ⟨rfl, rfl, rfl⟩ := H
                     go_wp2_with (first | ((with_reducible refine gate_callee (f := 51) rfl ?_); refine goesL_ (some 32) rfl rfl Tryz.func51 (by kernel_rfl) rfl #[.string (rdOf ByteArray.empty t159 x18_1)] rfl (by ((try simp only [List.map_toArray, List.map_cons, List.map_nil]); (rfl))) ?_; (with_reducible refine (client_parseLine.calls (rdOf ByteArray.empty t159 x18_1) t163 t164 t165 t166 t167 t168 true _ A14.out).mono ?_); rintro e w29 ⟨v169, rfl, ho0, hb⟩; refine ⟨_, rfl, ?_⟩; replace HO_5 := Aside0.mk (Kd.S_elder' HO_5.out (Kd.R_base ho0) hb); have HO170 := Aside0.mk (Kd.R_lower (Kd.R_new' ho0 (Kd.R_lt HO_16.out)) (below_size HB.out)); replace HO_16 := Aside0.mk (Kd.R_elder' HO_16.out (Kd.R_base ho0) hb); replace HB := Aside0.mk (below_step HB.out hb); clear hb ho0) | ((with_reducible refine gate_dst (N := 8) rfl ?_); refine box_event ?hg (N := 8) ?hd (cs := #[.string (⟨#[]⟩ : ByteArray), .string (⟨#[]⟩ : ByteArray), .int .i64 0, .bool false, .string (⟨#[]⟩ : ByteArray), .slice none 0 0]) (t := 40) ?hr ?_; (case hd => rfl); (case hg => rfl); (case hr => (go_simp; done)); intro gb172 hg w30 hbox hb; replace HO_5 := Aside0.mk (Kd.S_below (Kd.S_elderB HO_5.out gb172 (Nat.le_of_eq hg.symm)) hb); replace HO_16 := Aside0.mk (Kd.R_below HO_16.out hb); replace HO170 := Aside0.mk (Kd.R_below HO170.out hb); have BK172 := Aside0.mk hbox; have GW172 := Aside0.mk ((by rw [hg]; exact (below_size HB.out) : w.heap.size ≤ gb172)); have GE172 := Aside0.mk ((by rw [hg]; exact (below_size HB.out) : w.heap.size ≤ gb172)); replace HB := Aside0.mk (below_step HB.out hb); clear hb hbox hg; obtain ⟨hcz31_0, hcz31_1, hcz31_2, hcz31_3, hcz31_4, hcz31_5, hfz31_0, hfz31_1, hfz31_2, hfz31_3, hfz31_4, hfz31_5⟩ := cz6_ BK172.out; obtain ⟨Ao32, co32, eo32⟩ := Kd.R_slice HO170.out; subst eo32; obtain ⟨Ao33, co33, eo33⟩ := Kd.S_slice HO_5.out; subst eo33) | ((with_reducible refine gate_callee (f := 29) rfl ?_); refine goesL_ (some 43) rfl rfl Tryz.func29 (by kernel_rfl) rfl #[.slice Ao33 x5_1.length co33, .string t163] rfl (by ((try simp only [List.map_toArray, List.map_cons, List.map_nil]); (rfl))) ?_; (with_reducible refine (client_Find.calls kj8 _ _ x5_1 t163 t173 t174 t175 t176 t177 t178 false _ ?side1 ?side2 A16.out).mono ?_); (case side1 => refine (Kd.S_reads' (e := 40) (base := w.heap.size) (ok := fun k_ => ((some k_ ≠ (.slice (some ad162) t159.length co5 : Value).ownBlock ∧ some k_ ≠ (.slice Ao32 t168.length co32 : Value).ownBlock) ∧ k_ ≠ gb172)) (n := x5_1.length) (c := co33) ?_).2.2; exact (Kd.S_mono (S_far6 (Kd.S_mono HO_5.out (fun k_ hk => (⟨hk, hk.2⟩ : _ ∧ k_ ≠ gb172))) (fun _ hk => hk.2)) (fun _ h_ => h_.1))); (case side2 => exact (Kd.S_reads' HO_5.out).2.1); rintro e w34 ⟨v179, rfl, ho0, hb⟩; refine ⟨_, rfl, ?_⟩; replace HO_5 := Aside0.mk (Kd.S_elder' (Kd.S_mono (S_far6 (Kd.S_mono HO_5.out (fun k_ hk => (⟨hk, hk.2⟩ : _ ∧ k_ ≠ gb172))) (fun _ hk => hk.2)) (fun _ h_ => h_.1)) (Kd.R_base ho0) hb); have HO180 := Aside0.mk (Kd.R_lower (Kd.R_new' (Kd.R_new' ho0 (Kd.R_lt (Kd.R_mono (R_far6 (Kd.R_types HO_16.out BK172.out (by decide)) (fun _ hk => hk.2)) (fun _ h_ => h_.1)))) (Kd.R_lt (Kd.R_mono (R_far6 (Kd.R_types HO170.out BK172.out (by decide)) (fun _ hk => hk.2)) (fun _ h_ => h_.1)))) (below_size (by (repeat (with_reducible first | exact HB.out | refine below_set ?_ GE172.out))))); replace HO_16 := Aside0.mk (Kd.R_elder' (Kd.R_mono (R_far6 (Kd.R_types HO_16.out BK172.out (by decide)) (fun _ hk => hk.2)) (fun _ h_ => h_.1)) (Kd.R_base ho0) hb); replace HO170 := Aside0.mk (Kd.R_elder' (Kd.R_mono (R_far6 (Kd.R_types HO170.out BK172.out (by decide)) (fun _ hk => hk.2)) (fun _ h_ => h_.1)) (Kd.R_base ho0) hb); replace BK172 := Aside0.mk (blk_below (g := gb172) (o := .cells #[.string t163, .string t164, .int .i64 t165, .bool t166, .string t167, .slice Ao32 t168.length co32] 40 (0, 0)) (put6_ BK172.out _ _ _ _ _ _) hb); replace HB := Aside0.mk (below_step (by (repeat (with_reducible first | exact HB.out | refine below_set ?_ GE172.out))) hb); clear hb ho0) | ((with_reducible refine gate_dst (N := 10) rfl ?_); refine box_event ?hg (N := 10) ?hd (cs := #[.string (⟨#[]⟩ : ByteArray), .string (⟨#[]⟩ : ByteArray), .int .i64 0, .bool false, .string (⟨#[]⟩ : ByteArray), .slice none 0 0]) (t := 40) ?hr ?_; (case hd => rfl); (case hg => rfl); (case hr => (go_simp; done)); intro gb182 hg w35 hbox hb; replace HO_5 := Aside0.mk (Kd.S_below (Kd.S_elderB HO_5.out gb182 (Nat.le_of_eq hg.symm)) hb); replace HO_16 := Aside0.mk (Kd.R_below HO_16.out hb); replace HO170 := Aside0.mk (Kd.R_below HO170.out hb); replace HO180 := Aside0.mk (Kd.R_below HO180.out hb); have BK182 := Aside0.mk hbox; have GW182 := Aside0.mk ((by rw [hg]; exact (below_size HB.out) : w.heap.size ≤ gb182)); have GE182 := Aside0.mk ((by rw [hg]; exact (below_size HB.out) : w.heap.size ≤ gb182)); replace HB := Aside0.mk (below_step HB.out hb); have NB172_182 := Aside0.mk ((by rw [hg]; exact Nat.ne_of_lt (blk_lt (g := gb172) (o := .cells #[.string t163, .string t164, .int .i64 t165, .bool t166, .string t167, .slice Ao32 t168.length co32] 40 (0, 0)) BK172.out) : gb172 ≠ gb182)); have NB182_172 := Aside0.mk ((by rw [hg]; exact Nat.ne_of_gt (blk_lt (g := gb172) (o := .cells #[.string t163, .string t164, .int .i64 t165, .bool t166, .string t167, .slice Ao32 t168.length co32] 40 (0, 0)) BK172.out) : gb182 ≠ gb172)); replace BK172 := Aside0.mk (blk_below (g := gb172) (o := .cells #[.string t163, .string t164, .int .i64 t165, .bool t166, .string t167, .slice Ao32 t168.length co32] 40 (0, 0)) BK172.out hb); clear hb hbox hg; have hnb36 := NB182_172.out; have hnc36 := NB172_182.out; obtain ⟨hcz37_0, hcz37_1, hcz37_2, hcz37_3, hcz37_4, hcz37_5, hfz37_0, hfz37_1, hfz37_2, hfz37_3, hfz37_4, hfz37_5⟩ := cz6_ BK182.out; obtain ⟨Ao38, co38, eo38⟩ := Kd.R_slice HO180.out; subst eo38))
                     go_ret3
                     exact ⟨_, rfl, by (exact Kd.S_nil _ _ _ _ _), by (repeat (with_reducible first | exact HB.out | refine below_set ?_ GE182.out))⟩
                   · rw [if_neg c28] at H
                     have c28b0 : ((x5_1.length : Int) == 256) = false := beq_eq_false_iff_ne.mpr c28
                     have c28b1 : ((x5_1.length : Int) != 256) = true := bne_iff_ne.mpr c28
                     by_cases c39 : x5_1.length < 1599289640401
                     · rw [if_pos c39] at H
                       have LMc39 := Aside0.mk c39
                       clear c39
                       obtain ⟨y183, hy183⟩ : ∃ y_ : List (S40), y_ = (x5_1 ++ [(⟨t163, t164, t165, t166, t167, t168⟩ : S40)]) := ⟨_, rfl⟩
                       replace H : (client_Parse.l0 kj8 y183 t159 (t159.length : Int) (wrap64 (x18_1 + 1))) = some (r1, r2, r3) := by (rw [hy183]; with_reducible exact H)
                       have Ny183 := Aside0.mk hy183
                       clear hy183
                       have H' := Aside0.mk H
                       clear H
                       go_wp2_with (first | ((with_reducible refine gate_callee (f := 51) rfl ?_); refine goesL_ (some 32) rfl rfl Tryz.func51 (by kernel_rfl) rfl #[.string (rdOf ByteArray.empty t159 x18_1)] rfl (by ((try simp only [List.map_toArray, List.map_cons, List.map_nil]); (rfl))) ?_; (with_reducible refine (client_parseLine.calls (rdOf ByteArray.empty t159 x18_1) t163 t164 t165 t166 t167 t168 true _ A14.out).mono ?_); rintro e w40 ⟨v169, rfl, ho0, hb⟩; refine ⟨_, rfl, ?_⟩; replace HO_5 := Aside0.mk (Kd.S_elder' HO_5.out (Kd.R_base ho0) hb); have HO170 := Aside0.mk (Kd.R_lower (Kd.R_new' ho0 (Kd.R_lt HO_16.out)) (below_size HB.out)); replace HO_16 := Aside0.mk (Kd.R_elder' HO_16.out (Kd.R_base ho0) hb); replace HB := Aside0.mk (below_step HB.out hb); clear hb ho0) | ((with_reducible refine gate_dst (N := 8) rfl ?_); refine box_event ?hg (N := 8) ?hd (cs := #[.string (⟨#[]⟩ : ByteArray), .string (⟨#[]⟩ : ByteArray), .int .i64 0, .bool false, .string (⟨#[]⟩ : ByteArray), .slice none 0 0]) (t := 40) ?hr ?_; (case hd => rfl); (case hg => rfl); (case hr => (go_simp; done)); intro gb172 hg w41 hbox hb; replace HO_5 := Aside0.mk (Kd.S_below (Kd.S_elderB HO_5.out gb172 (Nat.le_of_eq hg.symm)) hb); replace HO_16 := Aside0.mk (Kd.R_below HO_16.out hb); replace HO170 := Aside0.mk (Kd.R_below HO170.out hb); have BK172 := Aside0.mk hbox; have GW172 := Aside0.mk ((by rw [hg]; exact (below_size HB.out) : w.heap.size ≤ gb172)); have GE172 := Aside0.mk ((by rw [hg]; exact (below_size HB.out) : w.heap.size ≤ gb172)); replace HB := Aside0.mk (below_step HB.out hb); clear hb hbox hg; obtain ⟨hcz42_0, hcz42_1, hcz42_2, hcz42_3, hcz42_4, hcz42_5, hfz42_0, hfz42_1, hfz42_2, hfz42_3, hfz42_4, hfz42_5⟩ := cz6_ BK172.out; obtain ⟨Ao43, co43, eo43⟩ := Kd.R_slice HO170.out; subst eo43; obtain ⟨Ao44, co44, eo44⟩ := Kd.S_slice HO_5.out; subst eo44) | ((with_reducible refine gate_callee (f := 29) rfl ?_); refine goesL_ (some 43) rfl rfl Tryz.func29 (by kernel_rfl) rfl #[.slice Ao44 x5_1.length co44, .string t163] rfl (by ((try simp only [List.map_toArray, List.map_cons, List.map_nil]); (rfl))) ?_; (with_reducible refine (client_Find.calls kj8 _ _ x5_1 t163 t173 t174 t175 t176 t177 t178 false _ ?side1 ?side2 A16.out).mono ?_); (case side1 => refine (Kd.S_reads' (e := 40) (base := w.heap.size) (ok := fun k_ => ((some k_ ≠ (.slice (some ad162) t159.length co5 : Value).ownBlock ∧ some k_ ≠ (.slice Ao43 t168.length co43 : Value).ownBlock) ∧ k_ ≠ gb172)) (n := x5_1.length) (c := co44) ?_).2.2; exact (Kd.S_mono (S_far6 (Kd.S_mono HO_5.out (fun k_ hk => (⟨hk, hk.2⟩ : _ ∧ k_ ≠ gb172))) (fun _ hk => hk.2)) (fun _ h_ => h_.1))); (case side2 => exact (Kd.S_reads' HO_5.out).2.1); rintro e w45 ⟨v179, rfl, ho0, hb⟩; refine ⟨_, rfl, ?_⟩; replace HO_5 := Aside0.mk (Kd.S_elder' (Kd.S_mono (S_far6 (Kd.S_mono HO_5.out (fun k_ hk => (⟨hk, hk.2⟩ : _ ∧ k_ ≠ gb172))) (fun _ hk => hk.2)) (fun _ h_ => h_.1)) (Kd.R_base ho0) hb); have HO180 := Aside0.mk (Kd.R_lower (Kd.R_new' (Kd.R_new' ho0 (Kd.R_lt (Kd.R_mono (R_far6 (Kd.R_types HO_16.out BK172.out (by decide)) (fun _ hk => hk.2)) (fun _ h_ => h_.1)))) (Kd.R_lt (Kd.R_mono (R_far6 (Kd.R_types HO170.out BK172.out (by decide)) (fun _ hk => hk.2)) (fun _ h_ => h_.1)))) (below_size (by (repeat (with_reducible first | exact HB.out | refine below_set ?_ GE172.out))))); replace HO_16 := Aside0.mk (Kd.R_elder' (Kd.R_mono (R_far6 (Kd.R_types HO_16.out BK172.out (by decide)) (fun _ hk => hk.2)) (fun _ h_ => h_.1)) (Kd.R_base ho0) hb); replace HO170 := Aside0.mk (Kd.R_elder' (Kd.R_mono (R_far6 (Kd.R_types HO170.out BK172.out (by decide)) (fun _ hk => hk.2)) (fun _ h_ => h_.1)) (Kd.R_base ho0) hb); replace BK172 := Aside0.mk (blk_below (g := gb172) (o := .cells #[.string t163, .string t164, .int .i64 t165, .bool t166, .string t167, .slice Ao43 t168.length co43] 40 (0, 0)) (put6_ BK172.out _ _ _ _ _ _) hb); replace HB := Aside0.mk (below_step (by (repeat (with_reducible first | exact HB.out | refine below_set ?_ GE172.out))) hb); clear hb ho0) | ((with_reducible refine gate_dst (N := 10) rfl ?_); refine box_event ?hg (N := 10) ?hd (cs := #[.string (⟨#[]⟩ : ByteArray), .string (⟨#[]⟩ : ByteArray), .int .i64 0, .bool false, .string (⟨#[]⟩ : ByteArray), .slice none 0 0]) (t := 40) ?hr ?_; (case hd => rfl); (case hg => rfl); (case hr => (go_simp; done)); intro gb182 hg w46 hbox hb; replace HO_5 := Aside0.mk (Kd.S_below (Kd.S_elderB HO_5.out gb182 (Nat.le_of_eq hg.symm)) hb); replace HO_16 := Aside0.mk (Kd.R_below HO_16.out hb); replace HO170 := Aside0.mk (Kd.R_below HO170.out hb); replace HO180 := Aside0.mk (Kd.R_below HO180.out hb); have BK182 := Aside0.mk hbox; have GW182 := Aside0.mk ((by rw [hg]; exact (below_size HB.out) : w.heap.size ≤ gb182)); have GE182 := Aside0.mk ((by rw [hg]; exact (below_size HB.out) : w.heap.size ≤ gb182)); replace HB := Aside0.mk (below_step HB.out hb); have NB172_182 := Aside0.mk ((by rw [hg]; exact Nat.ne_of_lt (blk_lt (g := gb172) (o := .cells #[.string t163, .string t164, .int .i64 t165, .bool t166, .string t167, .slice Ao43 t168.length co43] 40 (0, 0)) BK172.out) : gb172 ≠ gb182)); have NB182_172 := Aside0.mk ((by rw [hg]; exact Nat.ne_of_gt (blk_lt (g := gb172) (o := .cells #[.string t163, .string t164, .int .i64 t165, .bool t166, .string t167, .slice Ao43 t168.length co43] 40 (0, 0)) BK172.out) : gb182 ≠ gb172)); replace BK172 := Aside0.mk (blk_below (g := gb172) (o := .cells #[.string t163, .string t164, .int .i64 t165, .bool t166, .string t167, .slice Ao43 t168.length co43] 40 (0, 0)) BK172.out hb); clear hb hbox hg; have hnb47 := NB182_172.out; have hnc47 := NB172_182.out; obtain ⟨hcz48_0, hcz48_1, hcz48_2, hcz48_3, hcz48_4, hcz48_5, hfz48_0, hfz48_1, hfz48_2, hfz48_3, hfz48_4, hfz48_5⟩ := cz6_ BK182.out; obtain ⟨Ao49, co49, eo49⟩ := Kd.R_slice HO180.out; subst eo49) | ((with_reducible refine gate_store (t := 40) (p := 10) rfl ?_); refine store_event (t := 40) (p := 10) (v := ?vo_w50) (w1 := ((((((w46.setCell ⟨gb182, 0, none⟩ (.string t173)).setCell ⟨gb182, 1, none⟩ (.string t174)).setCell ⟨gb182, 2, none⟩ (.int .i64 t175)).setCell ⟨gb182, 3, none⟩ (.bool t176)).setCell ⟨gb182, 4, none⟩ (.string t177)).setCell ⟨gb182, 5, none⟩ (.slice Ao49 t178.length co49))) ?hg ?ho ?hn ?hr ?_; (case ho => rfl); (case hg => rfl); (case hn => rfl); (case hr => (go_simp; done)); intro w50 hw; have n0_ : Aside0 (Kd.S k40 40 w50 w.heap.size (fun k_ => some k_ ≠ (.slice (some ad162) t159.length co5 : Value).ownBlock ∧ some k_ ≠ (.slice Ao43 t168.length co43 : Value).ownBlock ∧ some k_ ≠ (.slice Ao49 t178.length co49 : Value).ownBlock ∧ k_ ≠ gb172 ∧ k_ ≠ gb182) (.slice Ao44 x5_1.length co44) x5_1) := ⟨(by rw [hw]; exact (by (with_reducible repeat (first | apply Kd.S_alloc  | apply Kd.S_drewN  | apply Kd.S_drew)); exact Kd.S_mono (S_far6 (Kd.S_mono HO_5.out (fun k_ hk => (⟨hk, hk.2⟩ : _ ∧ k_ ≠ gb182))) (fun _ hk => hk.2)) (fun _ hk => ⟨hk.1.1.1.1.1, ⟨hk.1.1.1.1.2, ⟨hk.1.1.2, ⟨hk.1.1.1.2, hk.1.2⟩⟩⟩⟩)))⟩; have n1_ : Aside0 (Kd.R Kd.string 9 w50 w.heap.size (fun k_ => some k_ ≠ (.slice Ao43 t168.length co43 : Value).ownBlock ∧ some k_ ≠ (.slice Ao49 t178.length co49 : Value).ownBlock) (.slice (some ad162) t159.length co5) t159) := ⟨(by rw [hw]; exact (by (with_reducible repeat (first | apply Kd.R_alloc  | apply Kd.R_drewN  | apply Kd.R_drew)); exact Kd.R_mono (R_far6 (Kd.R_types HO_16.out BK182.out (by decide)) (fun _ hk => hk.2)) (fun _ hk => ⟨hk.1.1.2, hk.1.2⟩)))⟩; have n2_ : Aside0 (Kd.R Kd.string 9 w50 w.heap.size (fun k_ => some k_ ≠ (.slice (some ad162) t159.length co5 : Value).ownBlock ∧ some k_ ≠ (.slice Ao49 t178.length co49 : Value).ownBlock) (.slice Ao43 t168.length co43) t168) := ⟨(by rw [hw]; exact (by (with_reducible repeat (first | apply Kd.R_alloc  | apply Kd.R_drewN  | apply Kd.R_drew)); exact Kd.R_mono (R_far6 (Kd.R_types HO170.out BK182.out (by decide)) (fun _ hk => hk.2)) (fun _ hk => ⟨hk.1.1.2, hk.1.2⟩)))⟩; have n3_ : Aside0 (Kd.R Kd.string 9 w50 w.heap.size (fun k_ => some k_ ≠ (.slice (some ad162) t159.length co5 : Value).ownBlock ∧ some k_ ≠ (.slice Ao43 t168.length co43 : Value).ownBlock) (.slice Ao49 t178.length co49) t178) := ⟨(by rw [hw]; exact (by (with_reducible repeat (first | apply Kd.R_alloc  | apply Kd.R_drewN  | apply Kd.R_drew)); exact Kd.R_mono (R_far6 (Kd.R_types HO180.out BK182.out (by decide)) (fun _ hk => hk.2)) (fun _ hk => ⟨hk.1.1.2, hk.1.2⟩)))⟩; have n4_ : Aside0 (w50.heap[gb172]? = some (.cells #[.string t163, .string t164, .int .i64 t165, .bool t166, .string t167, .slice Ao43 t168.length co43] 40 (0, 0))) := ⟨(by rw [hw]; exact (by (with_reducible repeat (first | refine blk_drewN ?_ _  | refine blk_drew ?_  | refine blk_alloc ?_ _)); refine blk_far ?_ NB172_182.out _; (with_reducible repeat (first | refine blk_drewN ?_ _  | refine blk_drew ?_  | refine blk_alloc ?_ _)); refine blk_far ?_ NB172_182.out _; (with_reducible repeat (first | refine blk_drewN ?_ _  | refine blk_drew ?_  | refine blk_alloc ?_ _)); refine blk_far ?_ NB172_182.out _; (with_reducible repeat (first | refine blk_drewN ?_ _  | refine blk_drew ?_  | refine blk_alloc ?_ _)); refine blk_far ?_ NB172_182.out _; (with_reducible repeat (first | refine blk_drewN ?_ _  | refine blk_drew ?_  | refine blk_alloc ?_ _)); refine blk_far ?_ NB172_182.out _; (with_reducible repeat (first | refine blk_drewN ?_ _  | refine blk_drew ?_  | refine blk_alloc ?_ _)); refine blk_far ?_ NB172_182.out _; (with_reducible repeat (first | refine blk_drewN ?_ _  | refine blk_drew ?_  | refine blk_alloc ?_ _)); exact BK172.out))⟩; have n5_ : Aside0 (w50.heap[gb182]? = some (.cells #[.string t173, .string t174, .int .i64 t175, .bool t176, .string t177, .slice Ao49 t178.length co49] 40 (0, 0))) := ⟨(by rw [hw]; exact (put6_ BK182.out _ _ _ _ _ _))⟩; have n6_ : Aside0 (Below w.heap.size w w50) := ⟨(by rw [hw]; exact (by (repeat (with_reducible first | exact HB.out | refine below_set ?_ GE182.out))))⟩; clear hw HO_5; clear HO_16 HO170; clear HO180 BK172; clear BK182 HB; have HO_5 := n0_; have HO_16 := n1_; have HO170 := n2_; have HO180 := n3_; have BK172 := n4_; have BK182 := n5_; have HB := n6_; clear n0_ n1_ n2_ n3_ n4_ n5_ n6_; obtain ⟨hcz51_0, hcz51_1, hcz51_2, hcz51_3, hcz51_4, hcz51_5, hfz51_0, hfz51_1, hfz51_2, hfz51_3, hfz51_4, hfz51_5⟩ := cz6_ BK172.out) | ((with_reducible refine gate_builtin (b := .append) (xs := #[.tmp 54, .tmp 56]) rfl ?_); at_builtin; refine Kd.S_append k40 (w0 := w) w.heap.size rfl (.tmp 54) (.tmp 56) 22 40 (.agg #[(.string ⟨#[]⟩), (.string ⟨#[]⟩), (.int .i64 0), (.bool false), (.string ⟨#[]⟩), (.slice none 0 0)]) 88 rfl Tryz.underlying22 info40 rfl (by decide) (by omega) (.slice Ao44 x5_1.length co44) x5_1 (⟨t163, t164, t165, t166, t167, t168⟩ : S40) [.string t163, .string t164, .int .i64 t165, .bool t166, .string t167, .slice Ao43 t168.length co43] (fun k_ => some k_ ≠ (.slice (some ad162) t159.length co5 : Value).ownBlock ∧ some k_ ≠ (.slice Ao49 t178.length co49 : Value).ownBlock ∧ k_ ≠ gb172 ∧ k_ ≠ gb182) (fun k_ => some k_ = (.slice Ao43 t168.length co43 : Value).ownBlock) rfl rfl ?aP (fun k_ hk_ => ((Kd.R_mono (ok' := fun k_ => ((fun k_ => some k_ ≠ (.slice (some ad162) t159.length co5 : Value).ownBlock ∧ some k_ ≠ (.slice Ao49 t178.length co49 : Value).ownBlock ∧ k_ ≠ gb172 ∧ k_ ≠ gb182)) k_ ∧ some k_ ≠ (.slice Ao44 x5_1.length co44 : Value).ownBlock) (Kd.R_types (Kd.R_types (Kd.R_apart' (HO170.out) (Kd.S_typed HO_5.out) (by decide)) BK172.out (by decide)) BK182.out (by decide)) (fun k_ hk => ⟨⟨hk.1.1.1.1, ⟨hk.1.1.1.2, ⟨hk.1.2, hk.2⟩⟩⟩, hk.1.1.2⟩))).1 k_ hk_.symm) ?aF ?aO ?aB ?aS ?aL ?_; (case aP => exact k40_mkM _ _ _ (⟨t163, t164, t165, t166, t167, t168⟩ : S40) (Kd.R_mono (Kd.R_tight rfl (Kd.R_mono (ok' := fun k_ => ((fun k_ => some k_ ≠ (.slice (some ad162) t159.length co5 : Value).ownBlock ∧ some k_ ≠ (.slice Ao49 t178.length co49 : Value).ownBlock ∧ k_ ≠ gb172 ∧ k_ ≠ gb182)) k_ ∧ some k_ ≠ (.slice Ao44 x5_1.length co44 : Value).ownBlock) (Kd.R_types (Kd.R_types (Kd.R_apart' (HO170.out) (Kd.S_typed HO_5.out) (by decide)) BK172.out (by decide)) BK182.out (by decide)) (fun k_ hk => ⟨⟨hk.1.1.1.1, ⟨hk.1.1.1.2, ⟨hk.1.2, hk.2⟩⟩⟩, hk.1.1.2⟩))) (fun _ h_ => h_))); (case aB => exact HB.out); (case aF => exact (fun k_ hk => ⟨Kd.fresh' (Kd.R_lt HO_16.out) k_ hk, Kd.fresh' (Kd.R_lt HO180.out) k_ hk, Kd.freshB (g := gb172) (o := .cells #[.string t163, .string t164, .int .i64 t165, .bool t166, .string t167, .slice Ao43 t168.length co43] 40 (0, 0)) BK172.out k_ hk, Kd.freshB (g := gb182) (o := .cells #[.string t173, .string t174, .int .i64 t175, .bool t176, .string t177, .slice Ao49 t178.length co49] 40 (0, 0)) BK182.out k_ hk⟩)); (case aO => exact (by (with_reducible repeat (first | apply Kd.S_alloc  | apply Kd.S_drewN  | apply Kd.S_drew)); exact Kd.S_mono HO_5.out (fun k_ hk => ⟨⟨hk.1, ⟨hk.2.2.1, ⟨hk.2.2.2.1, hk.2.2.2.2⟩⟩⟩, fun e_ => hk.2.1 e_⟩))); (case aS => exact (below_size HB.out)); (case aL => have := LMc39.out; omega); intro v184 w52 ho hb hg hat; rw [← Ny183.out] at ho; have n0_ := Aside0.mk (Kd.R_over' HO_16.out (Kd.S_typed HO_5.out) (by decide) hg); have n1_ := Aside0.mk (blk_grown (g := gb172) (o := .cells #[.string t163, .string t164, .int .i64 t165, .bool t166, .string t167, .slice Ao43 t168.length co43] 40 (0, 0)) BK172.out hg (Kd.S_away HO_5.out (fun _ hk => hk.2.2.2.1))); have n2_ := Aside0.mk (Kd.R_over' HO180.out (Kd.S_typed HO_5.out) (by decide) hg); have n3_ := Aside0.mk (blk_grown (g := gb182) (o := .cells #[.string t173, .string t174, .int .i64 t175, .bool t176, .string t177, .slice Ao49 t178.length co49] 40 (0, 0)) BK182.out hg (Kd.S_away HO_5.out (fun _ hk => hk.2.2.2.2))); have n4_ := Aside0.mk hb; have n5_ := Aside0.mk ho; clear HO_16 BK172; clear HO180 BK182; clear HB HO_5 HO170; have HO_16 := n0_; have BK172 := n1_; have HO180 := n2_; have BK182 := n3_; have HB := n4_; have HO185 := n5_; clear n0_ n1_ n2_ n3_ n4_ n5_; clear ho hb hg hat))
                       go_roundg kj8
                       case measure => have := HK1.out; have := HJ8.out; omega
                       case rel => exact ⟨(y183), (wrap64 (x18_1 + 1)), rfl, H', ⟨by have := HK1.out; have := HJ8.out; omega⟩, ⟨by (with_reducible repeat (first | apply Kd.S_alloc  | apply Kd.S_drewN  | apply Kd.S_drew)); exact Kd.S_mono HO185.out (fun _ hk => hk.1)⟩, ⟨by (with_reducible repeat (first | apply Kd.R_alloc  | apply Kd.R_drewN  | apply Kd.R_drew)); exact Kd.R_mono HO_16.out (fun _ hk => trivial)⟩, ⟨HB.out⟩⟩
                     · rw [if_neg c39] at H
                       exact absurd H (by simp)
               · replace c15 := Bool.eq_false_iff.mpr c15
                 subst c15
                 have H1 : (some (([] : List (S40)), 110, wrap64 (x18_1 + 1))) = some (r1, r2, r3) := by rw [if_neg (show ¬ (false = true) by decide)] at H; exact H
                 clear H
                 have H := H1
                 clear H1
                 simp only [Option.some.injEq, Prod.mk.injEq] at H
                 obtain ⟨rfl, rfl, rfl⟩ := H
                 go_wp2_with (first | ((with_reducible refine gate_callee (f := 51) rfl ?_); refine goesL_ (some 32) rfl rfl Tryz.func51 (by kernel_rfl) rfl #[.string (rdOf ByteArray.empty t159 x18_1)] rfl (by ((try simp only [List.map_toArray, List.map_cons, List.map_nil]); (rfl))) ?_; (with_reducible refine (client_parseLine.calls (rdOf ByteArray.empty t159 x18_1) t163 t164 t165 t166 t167 t168 false _ A14.out).mono ?_); rintro e w53 ⟨v169, rfl, ho0, hb⟩; refine ⟨_, rfl, ?_⟩; replace HO_5 := Aside0.mk (Kd.S_elder' HO_5.out (Kd.R_base ho0) hb); have HO170 := Aside0.mk (Kd.R_lower (Kd.R_new' ho0 (Kd.R_lt HO_16.out)) (below_size HB.out)); replace HO_16 := Aside0.mk (Kd.R_elder' HO_16.out (Kd.R_base ho0) hb); replace HB := Aside0.mk (below_step HB.out hb); clear hb ho0) | ((with_reducible refine gate_dst (N := 8) rfl ?_); refine box_event ?hg (N := 8) ?hd (cs := #[.string (⟨#[]⟩ : ByteArray), .string (⟨#[]⟩ : ByteArray), .int .i64 0, .bool false, .string (⟨#[]⟩ : ByteArray), .slice none 0 0]) (t := 40) ?hr ?_; (case hd => rfl); (case hg => rfl); (case hr => (go_simp; done)); intro gb172 hg w54 hbox hb; replace HO_5 := Aside0.mk (Kd.S_below (Kd.S_elderB HO_5.out gb172 (Nat.le_of_eq hg.symm)) hb); replace HO_16 := Aside0.mk (Kd.R_below HO_16.out hb); replace HO170 := Aside0.mk (Kd.R_below HO170.out hb); have BK172 := Aside0.mk hbox; have GW172 := Aside0.mk ((by rw [hg]; exact (below_size HB.out) : w.heap.size ≤ gb172)); have GE172 := Aside0.mk ((by rw [hg]; exact (below_size HB.out) : w.heap.size ≤ gb172)); replace HB := Aside0.mk (below_step HB.out hb); clear hb hbox hg; obtain ⟨hcz55_0, hcz55_1, hcz55_2, hcz55_3, hcz55_4, hcz55_5, hfz55_0, hfz55_1, hfz55_2, hfz55_3, hfz55_4, hfz55_5⟩ := cz6_ BK172.out; obtain ⟨Ao56, co56, eo56⟩ := Kd.R_slice HO170.out; subst eo56))
                 go_ret3
                 exact ⟨_, rfl, by (exact Kd.S_nil _ _ _ _ _), by (repeat (with_reducible first | exact HB.out | refine below_set ?_ GE172.out))⟩
         · rw [if_neg c8] at H
           exact absurd H (by simp)
       · rw [if_neg c7] at H
         exact absurd H (by simp)
     · rw [if_neg c6] at H
       have c6b0 : decide (x18_1 < (t159.length : Int)) = false := decide_eq_false c6
       clear c6
       simp only [Option.some.injEq, Prod.mk.injEq] at H
       obtain ⟨rfl, rfl, rfl⟩ := H
       go_wp2
       go_ret3
       exact ⟨_, rfl, by (with_reducible repeat (first | apply Kd.S_alloc  | apply Kd.S_drewN  | apply Kd.S_drew)); exact Kd.S_mono HO_5.out (fun _ hk => trivial), by (with_reducible exact HB.out)⟩
end Go.Proofs.YtmimipgmhgalaaaGreatDoor.PAll
end
section
namespace Go.Proofs.YtmimipgmhgalaaaGreatDoor.PAll
open Go.RowKit Go.Proofs.YtmimipgmhgalaaaGreatDoorW.PrintWords Go.Proofs.YtmimipgmhgalaaaGreatDoorW.PrintLast Go.Proofs.YtmimipgmhgalaaaGreatDoorW.PrintMore
attribute [local go_sem] max2_int min2_int max_two min_two max_three min_three max_four min_four
set_option linter.unusedVariables false
set_option linter.unusedSimpArgs false
end Go.Proofs.YtmimipgmhgalaaaGreatDoor.PAll
end
section
namespace Go.Proofs.YtmimipgmhgalaaaGreatDoor.PAll
open Go.RowKit Go.Proofs.YtmimipgmhgalaaaGreatDoorW.PrintWords Go.Proofs.YtmimipgmhgalaaaGreatDoorW.PrintLast Go.Proofs.YtmimipgmhgalaaaGreatDoorW.PrintMore
attribute [local go_sem] max2_int min2_int max_two min_two max_three min_three max_four min_four
set_option linter.unusedVariables false
set_option linter.unusedSimpArgs false
end Go.Proofs.YtmimipgmhgalaaaGreatDoor.PAll
end
section
namespace Go.Proofs.YtmimipgmhgalaaaGreatDoor.PAll
open Go.RowKit Go.Proofs.YtmimipgmhgalaaaGreatDoorW.PrintWords Go.Proofs.YtmimipgmhgalaaaGreatDoorW.PrintLast Go.Proofs.YtmimipgmhgalaaaGreatDoorW.PrintMore
attribute [local go_sem] max2_int min2_int max_two min_two max_three min_three max_four min_four
set_option linter.unusedVariables false
set_option linter.unusedSimpArgs false
mutual
def wicketlaw11_same.j0 : Nat → Bool → ByteArray → ByteArray → Int → Bool → ByteArray → List ByteArray → ByteArray → ByteArray → Int → Bool → ByteArray → List ByteArray → Option (Bool)
 | 0, _, _, _, _, _, _, _, _, _, _, _, _, _ => none
 | k + 1, x47, x310000, x310001, x310002, x310003, x310004, x310005, x311000, x311001, x311002, x311003, x311004, x311005 => if x47 = true then (some false) else (wicketlaw11_same.l0 k 0 x310000 x310001 x310002 x310003 x310004 x310005 x311000 x311001 x311002 x311003 x311004 x311005)
def wicketlaw11_same.l0 : Nat → Int → ByteArray → ByteArray → Int → Bool → ByteArray → List ByteArray → ByteArray → ByteArray → Int → Bool → ByteArray → List ByteArray → Option (Bool)
 | 0, _, _, _, _, _, _, _, _, _, _, _, _, _ => none
 | k + 1, x5, x310000, x310001, x310002, x310003, x310004, x310005, x311000, x311001, x311002, x311003, x311004, x311005 => if x5 < (x310005.length : Int) then (if 0 ≤ x5 then (if x5 < (x311005.length : Int) then (if (rdOf ByteArray.empty x310005 x5).toList = (rdOf ByteArray.empty x311005 x5).toList then (wicketlaw11_same.l0 k (wrap64 (x5 + 1)) x310000 x310001 x310002 x310003 x310004 x310005 x311000 x311001 x311002 x311003 x311004 x311005) else (some false)) else (none)) else (none)) else (some true)
end
def wicketlaw11_same.f (k : Nat) (a0_0 : ByteArray) (a0_1 : ByteArray) (a0_2 : Int) (a0_3 : Bool) (a0_4 : ByteArray) (l0_5 : List ByteArray) (a1_0 : ByteArray) (a1_1 : ByteArray) (a1_2 : Int) (a1_3 : Bool) (a1_4 : ByteArray) (l1_5 : List ByteArray) : Option (Bool) := if a0_0.toList = a1_0.toList then (if a0_1.toList = a1_1.toList then (if a0_2 = a1_2 then (if (a0_3 != a1_3) = true then (wicketlaw11_same.j0 k true a0_0 a0_1 a0_2 a0_3 a0_4 l0_5 a1_0 a1_1 a1_2 a1_3 a1_4 l1_5) else (if a0_4.toList = a1_4.toList then (wicketlaw11_same.j0 k ((l0_5.length : Int) != (l1_5.length : Int)) a0_0 a0_1 a0_2 a0_3 a0_4 l0_5 a1_0 a1_1 a1_2 a1_3 a1_4 l1_5) else (wicketlaw11_same.j0 k true a0_0 a0_1 a0_2 a0_3 a0_4 l0_5 a1_0 a1_1 a1_2 a1_3 a1_4 l1_5))) else (wicketlaw11_same.j0 k true a0_0 a0_1 a0_2 a0_3 a0_4 l0_5 a1_0 a1_1 a1_2 a1_3 a1_4 l1_5)) else (wicketlaw11_same.j0 k true a0_0 a0_1 a0_2 a0_3 a0_4 l0_5 a1_0 a1_1 a1_2 a1_3 a1_4 l1_5)) else (wicketlaw11_same.j0 k true a0_0 a0_1 a0_2 a0_3 a0_4 l0_5 a1_0 a1_1 a1_2 a1_3 a1_4 l1_5)
set_option maxHeartbeats 8000000 in
set_option maxRecDepth 100000 in
theorem wicketlaw11_same.calls (k : Nat) (a0_0 : ByteArray) (a0_1 : ByteArray) (a0_2 : Int) (a0_3 : Bool) (a0_4 : ByteArray) (A0_5 : Option Addr) (c0_5 : Nat) (l0_5 : List ByteArray) (a1_0 : ByteArray) (a1_1 : ByteArray) (a1_2 : Int) (a1_3 : Bool) (a1_4 : ByteArray) (A1_5 : Option Addr) (c1_5 : Nat) (l1_5 : List ByteArray) (r : Bool) (w : World) (hr0_5 : Kd.C Kd.string w A0_5 l0_5.length l0_5) (hc0_5 : l0_5.length ≤ c0_5) (hr1_5 : Kd.C Kd.string w A1_5 l1_5.length l1_5) (hc1_5 : l1_5.length ≤ c1_5) (h : wicketlaw11_same.f k a0_0 a0_1 a0_2 a0_3 a0_4 l0_5 a1_0 a1_1 a1_2 a1_3 a1_4 l1_5 = some r) :
 Calls Tryz.prog 31 #[.agg #[.string a0_0, .string a0_1, .int .i64 a0_2, .bool a0_3, .string a0_4, .slice A0_5 l0_5.length c0_5], .agg #[.string a1_0, .string a1_1, .int .i64 a1_2, .bool a1_3, .string a1_4, .slice A1_5 l1_5.length c1_5]] w fun e w' => e = .returned (.bool r) ∧ Below w.heap.size w w' := by
 have hu40 := Tryz.underlying40
 have hu43 := Tryz.underlying43
 have HR0_5 := Aside0.mk hr0_5
 have HC0_5 := Aside0.mk hc0_5
 clear hr0_5 hc0_5
 have HR1_5 := Aside0.mk hr1_5
 have HC1_5 := Aside0.mk hc1_5
 clear hr1_5 hc1_5
 have HB := Aside0.mk (Below.refl w.heap.size w)
 have H : (if a0_0.toList = a1_0.toList then (if a0_1.toList = a1_1.toList then (if a0_2 = a1_2 then (if (a0_3 != a1_3) = true then (wicketlaw11_same.j0 k true a0_0 a0_1 a0_2 a0_3 a0_4 l0_5 a1_0 a1_1 a1_2 a1_3 a1_4 l1_5) else (if a0_4.toList = a1_4.toList then (wicketlaw11_same.j0 k ((l0_5.length : Int) != (l1_5.length : Int)) a0_0 a0_1 a0_2 a0_3 a0_4 l0_5 a1_0 a1_1 a1_2 a1_3 a1_4 l1_5) else (wicketlaw11_same.j0 k true a0_0 a0_1 a0_2 a0_3 a0_4 l0_5 a1_0 a1_1 a1_2 a1_3 a1_4 l1_5))) else (wicketlaw11_same.j0 k true a0_0 a0_1 a0_2 a0_3 a0_4 l0_5 a1_0 a1_1 a1_2 a1_3 a1_4 l1_5)) else (wicketlaw11_same.j0 k true a0_0 a0_1 a0_2 a0_3 a0_4 l0_5 a1_0 a1_1 a1_2 a1_3 a1_4 l1_5)) else (wicketlaw11_same.j0 k true a0_0 a0_1 a0_2 a0_3 a0_4 l0_5 a1_0 a1_1 a1_2 a1_3 a1_4 l1_5)) = some r := h
 clear h
 have HC3 := Aside0.mk H
 clear H
 go_enter Tryz.func31, Tryz.ntmps31
 go_upto_region 1 with (first | ((with_reducible refine gate_dst (N := 2) rfl ?_); (try (refine gate_guard rfl ?_; dsimp only)); refine box_event ?hg (N := 2) ?hd (cs := #[.string a0_0, .string a0_1, .int .i64 a0_2, .bool a0_3, .string a0_4, .slice A0_5 l0_5.length c0_5]) (t := 40) ?hr ?_; (case hd => rfl); (case hg => rfl); (case hr => (go_simp; done)); intro gb309 hg w4 hbox hb; have BK309 := Aside0.mk hbox; have GW309 := Aside0.mk ((by rw [hg]; exact (below_size HB.out) : w.heap.size ≤ gb309)); have GE309 := Aside0.mk ((by rw [hg]; exact (below_size HB.out) : w.heap.size ≤ gb309)); replace HB := Aside0.mk (below_step HB.out hb); clear hb hbox hg) | ((with_reducible refine gate_dst (N := 3) rfl ?_); (try (refine gate_guard rfl ?_; dsimp only)); refine box_event ?hg (N := 3) ?hd (cs := #[.string a1_0, .string a1_1, .int .i64 a1_2, .bool a1_3, .string a1_4, .slice A1_5 l1_5.length c1_5]) (t := 43) ?hr ?_; (case hd => rfl); (case hg => rfl); (case hr => (go_simp; done)); intro gb310 hg w5 hbox hb; have BK310 := Aside0.mk hbox; have GW310 := Aside0.mk ((by rw [hg]; exact (below_size HB.out) : w.heap.size ≤ gb310)); have GE310 := Aside0.mk ((by rw [hg]; exact (below_size HB.out) : w.heap.size ≤ gb310)); replace HB := Aside0.mk (below_step HB.out hb); have NB309_310 := Aside0.mk ((by rw [hg]; exact Nat.ne_of_lt (blk_lt (g := gb309) (o := .cells #[.string a0_0, .string a0_1, .int .i64 a0_2, .bool a0_3, .string a0_4, .slice A0_5 l0_5.length c0_5] 40 (0, 0)) BK309.out) : gb309 ≠ gb310)); have NB310_309 := Aside0.mk ((by rw [hg]; exact Nat.ne_of_gt (blk_lt (g := gb309) (o := .cells #[.string a0_0, .string a0_1, .int .i64 a0_2, .bool a0_3, .string a0_4, .slice A0_5 l0_5.length c0_5] 40 (0, 0)) BK309.out) : gb310 ≠ gb309)); replace BK309 := Aside0.mk (blk_below (g := gb309) (o := .cells #[.string a0_0, .string a0_1, .int .i64 a0_2, .bool a0_3, .string a0_4, .slice A0_5 l0_5.length c0_5] 40 (0, 0)) BK309.out hb); clear hb hbox hg))
 repeat (go_quiet (first | ((with_reducible refine gate_dst (N := 2) rfl ?_); refine box_event ?hg (N := 2) ?hd (cs := #[.string a0_0, .string a0_1, .int .i64 a0_2, .bool a0_3, .string a0_4, .slice A0_5 l0_5.length c0_5]) (t := 40) ?hr ?_; (case hd => rfl); (case hg => rfl); (case hr => first | (go_simp; done)  | (go_simp; rfl)); intro gb309 hg w4 hbox hb; have BK309 := Aside0.mk hbox; have GW309 := Aside0.mk ((by rw [hg]; exact (below_size (by first | (with_reducible exact HB.out)  | (repeat (with_reducible first | exact HB.out  | apply below_alloc  | apply pw_below_drewN  | apply below_drew1))  | (repeat (first | (with_reducible first | exact HB.out  | apply below_alloc  | apply pw_below_drewN  | apply below_drew1)  | exact HB.out)))) : w.heap.size ≤ gb309)); have GE309 := Aside0.mk ((by rw [hg]; exact (below_size (by first | (with_reducible exact HB.out)  | (repeat (with_reducible first | exact HB.out  | apply below_alloc  | apply pw_below_drewN  | apply below_drew1))  | (repeat (first | (with_reducible first | exact HB.out  | apply below_alloc  | apply pw_below_drewN  | apply below_drew1)  | exact HB.out)))) : w.heap.size ≤ gb309)); replace HB := Aside0.mk (below_step (by first | (with_reducible exact HB.out)  | (repeat (with_reducible first | exact HB.out  | apply below_alloc  | apply pw_below_drewN  | apply below_drew1))  | (repeat (first | (with_reducible first | exact HB.out  | apply below_alloc  | apply pw_below_drewN  | apply below_drew1)  | exact HB.out))) hb); clear hb hbox hg)  | ((with_reducible refine gate_dst (N := 3) rfl ?_); refine box_event ?hg (N := 3) ?hd (cs := #[.string a1_0, .string a1_1, .int .i64 a1_2, .bool a1_3, .string a1_4, .slice A1_5 l1_5.length c1_5]) (t := 43) ?hr ?_; (case hd => rfl); (case hg => rfl); (case hr => first | (go_simp; done)  | (go_simp; rfl)); intro gb310 hg w5 hbox hb; have BK310 := Aside0.mk hbox; have GW310 := Aside0.mk ((by rw [hg]; exact (below_size (by first | (with_reducible exact HB.out)  | (repeat (with_reducible first | exact HB.out  | apply below_alloc  | apply pw_below_drewN  | apply below_drew1  | refine below_set ?_ GE309.out))  | (repeat (first | (with_reducible first | exact HB.out  | apply below_alloc  | apply pw_below_drewN  | apply below_drew1  | refine below_set ?_ GE309.out)  | exact HB.out)))) : w.heap.size ≤ gb310)); have GE310 := Aside0.mk ((by rw [hg]; exact (below_size (by first | (with_reducible exact HB.out)  | (repeat (with_reducible first | exact HB.out  | apply below_alloc  | apply pw_below_drewN  | apply below_drew1  | refine below_set ?_ GE309.out))  | (repeat (first | (with_reducible first | exact HB.out  | apply below_alloc  | apply pw_below_drewN  | apply below_drew1  | refine below_set ?_ GE309.out)  | exact HB.out)))) : w.heap.size ≤ gb310)); replace HB := Aside0.mk (below_step (by first | (with_reducible exact HB.out)  | (repeat (with_reducible first | exact HB.out  | apply below_alloc  | apply pw_below_drewN  | apply below_drew1  | refine below_set ?_ GE309.out))  | (repeat (first | (with_reducible first | exact HB.out  | apply below_alloc  | apply pw_below_drewN  | apply below_drew1  | refine below_set ?_ GE309.out)  | exact HB.out))) hb); have NB309_310 := Aside0.mk ((by rw [hg]; exact Nat.ne_of_lt (blk_lt (g := gb309) (o := .cells #[.string a0_0, .string a0_1, .int .i64 a0_2, .bool a0_3, .string a0_4, .slice A0_5 l0_5.length c0_5] 40 (0, 0)) (by first | (with_reducible exact BK309.out)  | ((with_reducible repeat (first | refine blk_drewN ?_ _  | refine blk_drew ?_  | refine blk_alloc ?_ _)); exact BK309.out))) : gb309 ≠ gb310)); have NB310_309 := Aside0.mk ((by rw [hg]; exact Nat.ne_of_gt (blk_lt (g := gb309) (o := .cells #[.string a0_0, .string a0_1, .int .i64 a0_2, .bool a0_3, .string a0_4, .slice A0_5 l0_5.length c0_5] 40 (0, 0)) (by first | (with_reducible exact BK309.out)  | ((with_reducible repeat (first | refine blk_drewN ?_ _  | refine blk_drew ?_  | refine blk_alloc ?_ _)); exact BK309.out))) : gb310 ≠ gb309)); replace BK309 := Aside0.mk (blk_below (g := gb309) (o := .cells #[.string a0_0, .string a0_1, .int .i64 a0_2, .bool a0_3, .string a0_4, .slice A0_5 l0_5.length c0_5] 40 (0, 0)) (by first | (with_reducible exact BK309.out)  | ((with_reducible repeat (first | refine blk_drewN ?_ _  | refine blk_drew ?_  | refine blk_alloc ?_ _)); exact BK309.out)) hb); clear hb hbox hg)); go_upto_region 1 with (first | ((with_reducible refine gate_dst (N := 2) rfl ?_); refine box_event ?hg (N := 2) ?hd (cs := #[.string a0_0, .string a0_1, .int .i64 a0_2, .bool a0_3, .string a0_4, .slice A0_5 l0_5.length c0_5]) (t := 40) ?hr ?_; (case hd => rfl); (case hg => rfl); (case hr => first | (go_simp; done)  | (go_simp; rfl)); intro gb309 hg w4 hbox hb; have BK309 := Aside0.mk hbox; have GW309 := Aside0.mk ((by rw [hg]; exact (below_size (by first | (with_reducible exact HB.out)  | (repeat (with_reducible first | exact HB.out  | apply below_alloc  | apply pw_below_drewN  | apply below_drew1))  | (repeat (first | (with_reducible first | exact HB.out  | apply below_alloc  | apply pw_below_drewN  | apply below_drew1)  | exact HB.out)))) : w.heap.size ≤ gb309)); have GE309 := Aside0.mk ((by rw [hg]; exact (below_size (by first | (with_reducible exact HB.out)  | (repeat (with_reducible first | exact HB.out  | apply below_alloc  | apply pw_below_drewN  | apply below_drew1))  | (repeat (first | (with_reducible first | exact HB.out  | apply below_alloc  | apply pw_below_drewN  | apply below_drew1)  | exact HB.out)))) : w.heap.size ≤ gb309)); replace HB := Aside0.mk (below_step (by first | (with_reducible exact HB.out)  | (repeat (with_reducible first | exact HB.out  | apply below_alloc  | apply pw_below_drewN  | apply below_drew1))  | (repeat (first | (with_reducible first | exact HB.out  | apply below_alloc  | apply pw_below_drewN  | apply below_drew1)  | exact HB.out))) hb); clear hb hbox hg)  | ((with_reducible refine gate_dst (N := 3) rfl ?_); refine box_event ?hg (N := 3) ?hd (cs := #[.string a1_0, .string a1_1, .int .i64 a1_2, .bool a1_3, .string a1_4, .slice A1_5 l1_5.length c1_5]) (t := 43) ?hr ?_; (case hd => rfl); (case hg => rfl); (case hr => first | (go_simp; done)  | (go_simp; rfl)); intro gb310 hg w5 hbox hb; have BK310 := Aside0.mk hbox; have GW310 := Aside0.mk ((by rw [hg]; exact (below_size (by first | (with_reducible exact HB.out)  | (repeat (with_reducible first | exact HB.out  | apply below_alloc  | apply pw_below_drewN  | apply below_drew1  | refine below_set ?_ GE309.out))  | (repeat (first | (with_reducible first | exact HB.out  | apply below_alloc  | apply pw_below_drewN  | apply below_drew1  | refine below_set ?_ GE309.out)  | exact HB.out)))) : w.heap.size ≤ gb310)); have GE310 := Aside0.mk ((by rw [hg]; exact (below_size (by first | (with_reducible exact HB.out)  | (repeat (with_reducible first | exact HB.out  | apply below_alloc  | apply pw_below_drewN  | apply below_drew1  | refine below_set ?_ GE309.out))  | (repeat (first | (with_reducible first | exact HB.out  | apply below_alloc  | apply pw_below_drewN  | apply below_drew1  | refine below_set ?_ GE309.out)  | exact HB.out)))) : w.heap.size ≤ gb310)); replace HB := Aside0.mk (below_step (by first | (with_reducible exact HB.out)  | (repeat (with_reducible first | exact HB.out  | apply below_alloc  | apply pw_below_drewN  | apply below_drew1  | refine below_set ?_ GE309.out))  | (repeat (first | (with_reducible first | exact HB.out  | apply below_alloc  | apply pw_below_drewN  | apply below_drew1  | refine below_set ?_ GE309.out)  | exact HB.out))) hb); have NB309_310 := Aside0.mk ((by rw [hg]; exact Nat.ne_of_lt (blk_lt (g := gb309) (o := .cells #[.string a0_0, .string a0_1, .int .i64 a0_2, .bool a0_3, .string a0_4, .slice A0_5 l0_5.length c0_5] 40 (0, 0)) (by first | (with_reducible exact BK309.out)  | ((with_reducible repeat (first | refine blk_drewN ?_ _  | refine blk_drew ?_  | refine blk_alloc ?_ _)); exact BK309.out))) : gb309 ≠ gb310)); have NB310_309 := Aside0.mk ((by rw [hg]; exact Nat.ne_of_gt (blk_lt (g := gb309) (o := .cells #[.string a0_0, .string a0_1, .int .i64 a0_2, .bool a0_3, .string a0_4, .slice A0_5 l0_5.length c0_5] 40 (0, 0)) (by first | (with_reducible exact BK309.out)  | ((with_reducible repeat (first | refine blk_drewN ?_ _  | refine blk_drew ?_  | refine blk_alloc ?_ _)); exact BK309.out))) : gb310 ≠ gb309)); replace BK309 := Aside0.mk (blk_below (g := gb309) (o := .cells #[.string a0_0, .string a0_1, .int .i64 a0_2, .bool a0_3, .string a0_4, .slice A0_5 l0_5.length c0_5] 40 (0, 0)) (by first | (with_reducible exact BK309.out)  | ((with_reducible repeat (first | refine blk_drewN ?_ _  | refine blk_drew ?_  | refine blk_alloc ?_ _)); exact BK309.out)) hb); clear hb hbox hg)))
 go_cut [47] (fun v47 wc => ∃ (kq : Nat) (x47_2 : Bool), v47 = .bool x47_2 ∧ Aside0 (wicketlaw11_same.j0 kq x47_2 a0_0 a0_1 a0_2 a0_3 a0_4 l0_5 a1_0 a1_1 a1_2 a1_3 a1_4 l1_5 = some r) ∧ Aside0 (kq ≤ k) ∧ Aside0 (wc.heap[gb309]? = some (.cells #[.string a0_0, .string a0_1, .int .i64 a0_2, .bool a0_3, .string a0_4, (.slice A0_5 l0_5.length c0_5)] 40 (0, 0))) ∧ Aside0 (wc.heap[gb310]? = some (.cells #[.string a1_0, .string a1_1, .int .i64 a1_2, .bool a1_3, .string a1_4, (.slice A1_5 l1_5.length c1_5)] 43 (0, 0))) ∧ Aside0 (Below w.heap.size w wc))
 case first =>
  have H := HC3.out
  clear HC3
  by_cases c6 : a0_0.toList = a1_0.toList
  · rw [if_pos c6] at H
    have c6b0 : (a0_0.toList == a1_0.toList) = true := beq_iff_eq.mpr c6
    have c6b1 : (a0_0.toList != a1_0.toList) = false := bne_eq_false_iff_eq.mpr c6
    clear c6
    by_cases c7 : a0_1.toList = a1_1.toList
    · rw [if_pos c7] at H
      have c7b0 : (a0_1.toList == a1_1.toList) = true := beq_iff_eq.mpr c7
      have c7b1 : (a0_1.toList != a1_1.toList) = false := bne_eq_false_iff_eq.mpr c7
      clear c7
      by_cases c8 : a0_2 = a1_2
      · rw [if_pos c8] at H
        have c8b0 : (a0_2 == a1_2) = true := beq_iff_eq.mpr c8
        have c8b1 : (a0_2 != a1_2) = false := bne_eq_false_iff_eq.mpr c8
        clear c8
        by_cases c9 : (a0_3 != a1_3) = true
        · rw [if_pos c9] at H
          have c9b0 : (a0_3 != a1_3) = true := c9
          (try (have c9b1 : decide (a0_3 = a1_3) = false := by simpa using c9))
          (try (have c9b2 : (a0_3 == a1_3) = false := by simpa using c9))
          (try (have c9b3 : ¬ (a0_3 = a1_3) := by simpa using c9))
          clear c9
          have H' := Aside0.mk H
          clear H
          have hnb10 := NB309_310.out
          have hnc10 := NB310_309.out
          obtain ⟨hcz11_0, hcz11_1, hcz11_2, hcz11_3, hcz11_4, hcz11_5, hfz11_0, hfz11_1, hfz11_2, hfz11_3, hfz11_4, hfz11_5⟩ := cz6_ BK309.out
          obtain ⟨hcz12_0, hcz12_1, hcz12_2, hcz12_3, hcz12_4, hcz12_5, hfz12_0, hfz12_1, hfz12_2, hfz12_3, hfz12_4, hfz12_5⟩ := cz6_ BK310.out
          go_wp2
          repeat (go_quiet (fail); try go_wp2)
          go_meet
          case rel => exact ⟨_, (true), rfl, H', ⟨by (omega)⟩, ⟨BK309.out⟩, ⟨BK310.out⟩, ⟨HB.out⟩⟩
        · rw [if_neg c9] at H
          have c9b0 : (a0_3 != a1_3) = false := by simpa using c9
          (try (have c9b1 : decide (a0_3 = a1_3) = true := by simpa using c9))
          (try (have c9b2 : (a0_3 == a1_3) = true := by simpa using c9))
          clear c9
          by_cases c13 : a0_4.toList = a1_4.toList
          · rw [if_pos c13] at H
            have c13b0 : (a0_4.toList == a1_4.toList) = true := beq_iff_eq.mpr c13
            have c13b1 : (a0_4.toList != a1_4.toList) = false := bne_eq_false_iff_eq.mpr c13
            clear c13
            have H' := Aside0.mk H
            clear H
            have hnb14 := NB309_310.out
            have hnc14 := NB310_309.out
            obtain ⟨hcz15_0, hcz15_1, hcz15_2, hcz15_3, hcz15_4, hcz15_5, hfz15_0, hfz15_1, hfz15_2, hfz15_3, hfz15_4, hfz15_5⟩ := cz6_ BK309.out
            obtain ⟨hcz16_0, hcz16_1, hcz16_2, hcz16_3, hcz16_4, hcz16_5, hfz16_0, hfz16_1, hfz16_2, hfz16_3, hfz16_4, hfz16_5⟩ := cz6_ BK310.out
            go_wp2
            repeat (go_quiet (fail); try go_wp2)
            go_meet
            case rel => exact ⟨_, (((l0_5.length : Int) != (l1_5.length : Int))), rfl, H', ⟨by (omega)⟩, ⟨BK309.out⟩, ⟨BK310.out⟩, ⟨HB.out⟩⟩
          · rw [if_neg c13] at H
            have c13b0 : (a0_4.toList == a1_4.toList) = false := beq_eq_false_iff_ne.mpr c13
            have c13b1 : (a0_4.toList != a1_4.toList) = true := bne_iff_ne.mpr c13
            have H' := Aside0.mk H
            clear H
            have hnb17 := NB309_310.out
            have hnc17 := NB310_309.out
            obtain ⟨hcz18_0, hcz18_1, hcz18_2, hcz18_3, hcz18_4, hcz18_5, hfz18_0, hfz18_1, hfz18_2, hfz18_3, hfz18_4, hfz18_5⟩ := cz6_ BK309.out
            obtain ⟨hcz19_0, hcz19_1, hcz19_2, hcz19_3, hcz19_4, hcz19_5, hfz19_0, hfz19_1, hfz19_2, hfz19_3, hfz19_4, hfz19_5⟩ := cz6_ BK310.out
            go_wp2
            repeat (go_quiet (fail); try go_wp2)
            go_meet
            case rel => exact ⟨_, (true), rfl, H', ⟨by (omega)⟩, ⟨BK309.out⟩, ⟨BK310.out⟩, ⟨HB.out⟩⟩
      · rw [if_neg c8] at H
        have c8b0 : (a0_2 == a1_2) = false := beq_eq_false_iff_ne.mpr c8
        have c8b1 : (a0_2 != a1_2) = true := bne_iff_ne.mpr c8
        have H' := Aside0.mk H
        clear H
        have hnb20 := NB309_310.out
        have hnc20 := NB310_309.out
        obtain ⟨hcz21_0, hcz21_1, hcz21_2, hcz21_3, hcz21_4, hcz21_5, hfz21_0, hfz21_1, hfz21_2, hfz21_3, hfz21_4, hfz21_5⟩ := cz6_ BK309.out
        obtain ⟨hcz22_0, hcz22_1, hcz22_2, hcz22_3, hcz22_4, hcz22_5, hfz22_0, hfz22_1, hfz22_2, hfz22_3, hfz22_4, hfz22_5⟩ := cz6_ BK310.out
        go_wp2
        repeat (go_quiet (fail); try go_wp2)
        go_meet
        case rel => exact ⟨_, (true), rfl, H', ⟨by (omega)⟩, ⟨BK309.out⟩, ⟨BK310.out⟩, ⟨HB.out⟩⟩
    · rw [if_neg c7] at H
      have c7b0 : (a0_1.toList == a1_1.toList) = false := beq_eq_false_iff_ne.mpr c7
      have c7b1 : (a0_1.toList != a1_1.toList) = true := bne_iff_ne.mpr c7
      have H' := Aside0.mk H
      clear H
      have hnb23 := NB309_310.out
      have hnc23 := NB310_309.out
      obtain ⟨hcz24_0, hcz24_1, hcz24_2, hcz24_3, hcz24_4, hcz24_5, hfz24_0, hfz24_1, hfz24_2, hfz24_3, hfz24_4, hfz24_5⟩ := cz6_ BK309.out
      obtain ⟨hcz25_0, hcz25_1, hcz25_2, hcz25_3, hcz25_4, hcz25_5, hfz25_0, hfz25_1, hfz25_2, hfz25_3, hfz25_4, hfz25_5⟩ := cz6_ BK310.out
      go_wp2
      repeat (go_quiet (fail); try go_wp2)
      go_meet
      case rel => exact ⟨_, (true), rfl, H', ⟨by (omega)⟩, ⟨BK309.out⟩, ⟨BK310.out⟩, ⟨HB.out⟩⟩
  · rw [if_neg c6] at H
    have c6b0 : (a0_0.toList == a1_0.toList) = false := beq_eq_false_iff_ne.mpr c6
    have c6b1 : (a0_0.toList != a1_0.toList) = true := bne_iff_ne.mpr c6
    have H' := Aside0.mk H
    clear H
    have hnb26 := NB309_310.out
    have hnc26 := NB310_309.out
    obtain ⟨hcz27_0, hcz27_1, hcz27_2, hcz27_3, hcz27_4, hcz27_5, hfz27_0, hfz27_1, hfz27_2, hfz27_3, hfz27_4, hfz27_5⟩ := cz6_ BK309.out
    obtain ⟨hcz28_0, hcz28_1, hcz28_2, hcz28_3, hcz28_4, hcz28_5, hfz28_0, hfz28_1, hfz28_2, hfz28_3, hfz28_4, hfz28_5⟩ := cz6_ BK310.out
    go_wp2
    repeat (go_quiet (fail); try go_wp2)
    go_meet
    case rel => exact ⟨_, (true), rfl, H', ⟨by (omega)⟩, ⟨BK309.out⟩, ⟨BK310.out⟩, ⟨HB.out⟩⟩
 case rest =>
  clear HC3
  obtain ⟨kq, x47_2, rfl, HA, HJ2, BK309, BK310, HB⟩ := hcut
  cases kq with
  | zero => exact absurd HA.out (by simp [wicketlaw11_same.j0])
  | succ kj2 =>
   have H := HA.out
   clear HA
   simp only [wicketlaw11_same.j0] at H
   by_cases c29 : x47_2 = true
   · subst c29
     have H1 : (some false) = some r := by rw [if_pos rfl] at H; exact H
     clear H
     have H := H1
     clear H1
     obtain rfl := Option.some.inj H
     go_wp2
     repeat (go_quiet (fail); try go_wp2)
     go_ret
     exact ⟨by (rfl), by (with_reducible exact HB.out)⟩
   · replace c29 := Bool.eq_false_iff.mpr c29
     subst c29
     have H1 : (wicketlaw11_same.l0 kj2 0 a0_0 a0_1 a0_2 a0_3 a0_4 l0_5 a1_0 a1_1 a1_2 a1_3 a1_4 l1_5) = some r := by rw [if_neg (show ¬ (false = true) by decide)] at H; exact H
     clear H
     have H := H1
     clear H1
     have H' := Aside0.mk H
     clear H
     go_wp2
     repeat (go_quiet (fail); try go_wp2)
     go_loopg [5] kj2 (fun kq v5 w' => ∃ (x5_2 : Int), v5 = .int .i64 x5_2 ∧ Aside0 (wicketlaw11_same.l0 kq x5_2 a0_0 a0_1 a0_2 a0_3 a0_4 l0_5 a1_0 a1_1 a1_2 a1_3 a1_4 l1_5 = some r) ∧ Aside0 (kq ≤ kj2) ∧ Aside0 (w'.heap[gb309]? = some (.cells #[.string a0_0, .string a0_1, .int .i64 a0_2, .bool a0_3, .string a0_4, (.slice A0_5 l0_5.length c0_5)] 40 (0, 0))) ∧ Aside0 (w'.heap[gb310]? = some (.cells #[.string a1_0, .string a1_1, .int .i64 a1_2, .bool a1_3, .string a1_4, (.slice A1_5 l1_5.length c1_5)] 43 (0, 0))) ∧ Aside0 (Below w.heap.size w w'))
     case atStart => exact ⟨(0), rfl, H', ⟨Nat.le_refl _⟩, ⟨BK309.out⟩, ⟨BK310.out⟩, ⟨HB.out⟩⟩
     case round =>
      clear H'
      obtain ⟨x5_2, rfl, HA, HK2, BK309, BK310, HB⟩ := hrel
      cases gk with
      | zero => exact absurd HA.out (by simp [wicketlaw11_same.l0])
      | succ k2 =>
       have H := HA.out
       clear HA
       simp only [wicketlaw11_same.l0] at H
       by_cases c30 : x5_2 < (l0_5.length : Int)
       · rw [if_pos c30] at H
         have c30b0 : decide (x5_2 < (l0_5.length : Int)) = true := decide_eq_true c30
         clear c30
         by_cases c31 : 0 ≤ x5_2
         · rw [if_pos c31] at H
           have c31b0 : decide (0 ≤ x5_2) = true := decide_eq_true c31
           clear c31
           by_cases c32 : x5_2 < (l1_5.length : Int)
           · rw [if_pos c32] at H
             have c32b0 : decide (x5_2 < (l1_5.length : Int)) = true := decide_eq_true c32
             clear c32
             by_cases c33 : (rdOf ByteArray.empty l0_5 x5_2).toList = (rdOf ByteArray.empty l1_5 x5_2).toList
             · rw [if_pos c33] at H
               have c33b0 : ((rdOf ByteArray.empty l0_5 x5_2).toList == (rdOf ByteArray.empty l1_5 x5_2).toList) = true := beq_iff_eq.mpr c33
               have c33b1 : ((rdOf ByteArray.empty l0_5 x5_2).toList != (rdOf ByteArray.empty l1_5 x5_2).toList) = false := bne_eq_false_iff_eq.mpr c33
               clear c33
               have H' := Aside0.mk H
               clear H
               have hnb34 := NB309_310.out
               have hnc34 := NB310_309.out
               obtain ⟨hcz35_0, hcz35_1, hcz35_2, hcz35_3, hcz35_4, hcz35_5, hfz35_0, hfz35_1, hfz35_2, hfz35_3, hfz35_4, hfz35_5⟩ := cz6_ BK309.out
               have p311 : 0 ≤ (x5_2 : Int) := of_decide_eq_true (by assumption)
               have q311 : x5_2 < (l0_5.length : Int) := of_decide_eq_true (by assumption)
               obtain ⟨ad311, e311, hx311_0⟩ := Kd.at_string HR0_5.out x5_2 p311 q311
               cases e311
               replace hx311_0 := (HB.out.cell (World.block_lt_of_cell? w _ hx311_0)).trans hx311_0
               replace p311 := eq_true p311
               replace q311 := eq_true q311
               obtain ⟨hcz36_0, hcz36_1, hcz36_2, hcz36_3, hcz36_4, hcz36_5, hfz36_0, hfz36_1, hfz36_2, hfz36_3, hfz36_4, hfz36_5⟩ := cz6_ BK310.out
               have p312 : 0 ≤ (x5_2 : Int) := of_decide_eq_true (by assumption)
               have q312 : x5_2 < (l1_5.length : Int) := of_decide_eq_true (by assumption)
               obtain ⟨ad312, e312, hx312_0⟩ := Kd.at_string HR1_5.out x5_2 p312 q312
               cases e312
               replace hx312_0 := (HB.out.cell (World.block_lt_of_cell? w _ hx312_0)).trans hx312_0
               replace p312 := eq_true p312
               replace q312 := eq_true q312
               go_wp2
               repeat (go_quiet (fail); try go_wp2)
               go_roundg k2
               case measure => have := HJ2.out; have := HK2.out; omega
               case rel => exact ⟨(wrap64 (x5_2 + 1)), rfl, H', ⟨by have := HJ2.out; have := HK2.out; omega⟩, ⟨by ((with_reducible repeat (refine blk_drewN ?_ _)); exact BK309.out)⟩, ⟨by ((with_reducible repeat (refine blk_drewN ?_ _)); exact BK310.out)⟩, ⟨by (repeat (with_reducible first | exact HB.out | apply pw_below_drewN))⟩⟩
             · rw [if_neg c33] at H
               have c33b0 : ((rdOf ByteArray.empty l0_5 x5_2).toList == (rdOf ByteArray.empty l1_5 x5_2).toList) = false := beq_eq_false_iff_ne.mpr c33
               have c33b1 : ((rdOf ByteArray.empty l0_5 x5_2).toList != (rdOf ByteArray.empty l1_5 x5_2).toList) = true := bne_iff_ne.mpr c33
               obtain rfl := Option.some.inj H
               have hnb37 := NB309_310.out
               have hnc37 := NB310_309.out
               obtain ⟨hcz38_0, hcz38_1, hcz38_2, hcz38_3, hcz38_4, hcz38_5, hfz38_0, hfz38_1, hfz38_2, hfz38_3, hfz38_4, hfz38_5⟩ := cz6_ BK309.out
               have p311 : 0 ≤ (x5_2 : Int) := of_decide_eq_true (by assumption)
               have q311 : x5_2 < (l0_5.length : Int) := of_decide_eq_true (by assumption)
               obtain ⟨ad311, e311, hx311_0⟩ := Kd.at_string HR0_5.out x5_2 p311 q311
               cases e311
               replace hx311_0 := (HB.out.cell (World.block_lt_of_cell? w _ hx311_0)).trans hx311_0
               replace p311 := eq_true p311
               replace q311 := eq_true q311
               obtain ⟨hcz39_0, hcz39_1, hcz39_2, hcz39_3, hcz39_4, hcz39_5, hfz39_0, hfz39_1, hfz39_2, hfz39_3, hfz39_4, hfz39_5⟩ := cz6_ BK310.out
               have p312 : 0 ≤ (x5_2 : Int) := of_decide_eq_true (by assumption)
               have q312 : x5_2 < (l1_5.length : Int) := of_decide_eq_true (by assumption)
               obtain ⟨ad312, e312, hx312_0⟩ := Kd.at_string HR1_5.out x5_2 p312 q312
               cases e312
               replace hx312_0 := (HB.out.cell (World.block_lt_of_cell? w _ hx312_0)).trans hx312_0
               replace p312 := eq_true p312
               replace q312 := eq_true q312
               go_wp2
               repeat (go_quiet (fail); try go_wp2)
               go_ret
               exact ⟨by (rfl), by (repeat (with_reducible first | exact HB.out | apply pw_below_drewN))⟩
           · rw [if_neg c32] at H
             exact absurd H (by simp)
         · rw [if_neg c31] at H
           exact absurd H (by simp)
       · rw [if_neg c30] at H
         have c30b0 : decide (x5_2 < (l0_5.length : Int)) = false := decide_eq_false c30
         clear c30
         obtain rfl := Option.some.inj H
         have hnb40 := NB309_310.out
         have hnc40 := NB310_309.out
         obtain ⟨hcz41_0, hcz41_1, hcz41_2, hcz41_3, hcz41_4, hcz41_5, hfz41_0, hfz41_1, hfz41_2, hfz41_3, hfz41_4, hfz41_5⟩ := cz6_ BK309.out
         go_wp2
         repeat (go_quiet (fail); try go_wp2)
         go_ret
         exact ⟨by (rfl), by (with_reducible exact HB.out)⟩
end Go.Proofs.YtmimipgmhgalaaaGreatDoor.PAll
end
section
namespace Go.Proofs.YtmimipgmhgalaaaGreatDoor.PAll
open Go.RowKit Go.Proofs.YtmimipgmhgalaaaGreatDoorW.PrintWords Go.Proofs.YtmimipgmhgalaaaGreatDoorW.PrintLast Go.Proofs.YtmimipgmhgalaaaGreatDoorW.PrintMore
attribute [local go_sem] max2_int min2_int max_two min_two max_three min_three max_four min_four
set_option linter.unusedVariables false
set_option linter.unusedSimpArgs false
def wicketlaw11_list.l0 : Nat → List (S40) → List (S43) → Int → Option (Bool)
 | 0, _, _, _ => none
 | k + 1, x0, x1, x5 => if x5 < (x0.length : Int) then (if 0 ≤ x5 then (if x5 < (x1.length : Int) then ((wicketlaw11_same.f k ((rd_T40 x0 x5).f0) ((rd_T40 x0 x5).f1) ((rd_T40 x0 x5).f2) ((rd_T40 x0 x5).f3) ((rd_T40 x0 x5).f4) ((rd_T40 x0 x5).f5) ((rd_T43 x1 x5).f0) ((rd_T43 x1 x5).f1) ((rd_T43 x1 x5).f2) ((rd_T43 x1 x5).f3) ((rd_T43 x1 x5).f4) ((rd_T43 x1 x5).f5)).bind fun t315 => (if t315 = true then (wicketlaw11_list.l0 k x0 x1 (wrap64 (x5 + 1))) else (some false))) else (none)) else (none)) else (some true)
def wicketlaw11_list.f (k : Nat) (l0 : List (S40)) (l1 : List (S43)) : Option (Bool) := if (l0.length : Int) = (l1.length : Int) then (wicketlaw11_list.l0 k l0 l1 0) else (some false)
def wicketlaw11_list.T6 : Bool × List (List Nat × List Nat) := (true, [([], []), ([], []), ([0, 1], [0, 1]), ([2], [2]), ([], []), ([], []), ([4, 5], [4, 5]), ([6], [6]), ([3, 7], [3, 7]), ([8], [8])])
def wicketlaw11_list.B6 : List Nat := [0, 0, 3, 7, 0, 0, 48, 112, 255, 511]
theorem wicketlaw11_list.tab6 : rtab .any (opsOf Tryz.f20 6) = wicketlaw11_list.T6 := by kernel_rfl
theorem wicketlaw11_list.bits6 : waitsOk wicketlaw11_list.T6.2 wicketlaw11_list.B6 = true := by kernel_rfl
set_option maxHeartbeats 8000000 in
set_option maxRecDepth 100000 in
theorem wicketlaw11_list.calls (k : Nat) (A0 : Option Addr) (c0 : Nat) (l0 : List (S40)) (A1 : Option Addr) (c1 : Nat) (l1 : List (S43)) (r : Bool) (w : World) (hr0 : Kd.C k40 w A0 l0.length l0) (hc0 : l0.length ≤ c0) (hr1 : Kd.C k43 w A1 l1.length l1) (hc1 : l1.length ≤ c1) (h : wicketlaw11_list.f k l0 l1 = some r) :
 Calls Tryz.prog 20 #[.slice A0 l0.length c0, .slice A1 l1.length c1] w fun e w' => e = .returned (.bool r) ∧ Below w.heap.size w w' := by
 have hu40 := Tryz.underlying40
 have hu43 := Tryz.underlying43
 have HR0 := Aside0.mk hr0
 have HC0 := Aside0.mk hc0
 clear hr0 hc0
 have HR1 := Aside0.mk hr1
 have HC1 := Aside0.mk hc1
 clear hr1 hc1
 have HB := Aside0.mk (Below.refl w.heap.size w)
 have H : (if (l0.length : Int) = (l1.length : Int) then (wicketlaw11_list.l0 k l0 l1 0) else (some false)) = some r := h
 clear h
 by_cases c3 : (l0.length : Int) = (l1.length : Int)
 · rw [if_pos c3] at H
   have c3b0 : ((l0.length : Int) == (l1.length : Int)) = true := beq_iff_eq.mpr c3
   have c3b1 : ((l0.length : Int) != (l1.length : Int)) = false := bne_eq_false_iff_eq.mpr c3
   have c3b2 : (l0.length == l1.length) = true := by (simp at c3 ⊢; omega)
   clear c3
   have H' := Aside0.mk H
   clear H
   go_enter Tryz.func20, Tryz.ntmps20
   go_wp2
   go_loopg [5] k (fun kq v5 w' => ∃ (x5_1 : Int), v5 = .int .i64 x5_1 ∧ Aside0 (wicketlaw11_list.l0 kq l0 l1 x5_1 = some r) ∧ Aside0 (kq ≤ k) ∧ Aside0 (Below w.heap.size w w'))
   case atStart => exact ⟨(0), rfl, H', ⟨Nat.le_refl _⟩, ⟨HB.out⟩⟩
   case round =>
    clear H' c3b0 c3b1 c3b2
    obtain ⟨x5_1, rfl, HA, HK1, HB⟩ := hrel
    cases gk with
    | zero => exact absurd HA.out (by simp [wicketlaw11_list.l0])
    | succ k1 =>
     have H := HA.out
     clear HA
     simp only [wicketlaw11_list.l0] at H
     by_cases c4 : x5_1 < (l0.length : Int)
     · rw [if_pos c4] at H
       have c4b0 : decide (x5_1 < (l0.length : Int)) = true := decide_eq_true c4
       clear c4
       by_cases c5 : 0 ≤ x5_1
       · rw [if_pos c5] at H
         have c5b0 : decide (0 ≤ x5_1) = true := decide_eq_true c5
         clear c5
         by_cases c6 : x5_1 < (l1.length : Int)
         · rw [if_pos c6] at H
           have c6b0 : decide (x5_1 < (l1.length : Int)) = true := decide_eq_true c6
           clear c6
           replace H := Option.bind_eq_some_iff.mp H
           obtain ⟨t315, A70, H⟩ := H
           replace H : (if t315 = true then (wicketlaw11_list.l0 k1 l0 l1 (wrap64 (x5_1 + 1))) else (some false)) = some r := H
           have A7 := Aside0.mk A70
           clear A70
           by_cases c8 : t315 = true
           · subst c8
             have H1 : (wicketlaw11_list.l0 k1 l0 l1 (wrap64 (x5_1 + 1))) = some r := by rw [if_pos rfl] at H; exact H
             clear H
             have H := H1
             clear H1
             have H' := Aside0.mk H
             clear H
             try go_wp2
             have n0_ := Aside0.mk (below_drew1 HB.out)
             clear HB
             have HB := n0_
             clear n0_
             have p313 : 0 ≤ (x5_1 : Int) := of_decide_eq_true (by assumption)
             have q313 : x5_1 < (l0.length : Int) := of_decide_eq_true (by assumption)
             obtain ⟨ad313, A313_5, c313_5, e313, hx313_0, hx313_1, hx313_2, hx313_3, hx313_4, hx313_5, hl313_5, hi313_5⟩ := at_T40 HR0.out x5_1 p313 q313
             have hw313_5 := hx313_5
             have hw313_4 := hx313_4
             have hw313_3 := hx313_3
             have hw313_2 := hx313_2
             have hw313_1 := hx313_1
             have hw313_0 := hx313_0
             cases e313
             replace hx313_0 := (HB.out.cell (World.block_lt_of_cell? w _ hx313_0)).trans hx313_0
             replace hx313_1 := (HB.out.cell (World.block_lt_of_cell? w _ hx313_1)).trans hx313_1
             replace hx313_2 := (HB.out.cell (World.block_lt_of_cell? w _ hx313_2)).trans hx313_2
             replace hx313_3 := (HB.out.cell (World.block_lt_of_cell? w _ hx313_3)).trans hx313_3
             replace hx313_4 := (HB.out.cell (World.block_lt_of_cell? w _ hx313_4)).trans hx313_4
             replace hx313_5 := (HB.out.cell (World.block_lt_of_cell? w _ hx313_5)).trans hx313_5
             have HR313_5 := Aside0.mk hi313_5
             have HC313_5 := Aside0.mk hl313_5
             clear hi313_5 hl313_5
             replace p313 := eq_true p313
             replace q313 := eq_true q313
             have p314 : 0 ≤ (x5_1 : Int) := of_decide_eq_true (by assumption)
             have q314 : x5_1 < (l1.length : Int) := of_decide_eq_true (by assumption)
             obtain ⟨ad314, A314_5, c314_5, e314, hx314_0, hx314_1, hx314_2, hx314_3, hx314_4, hx314_5, hl314_5, hi314_5⟩ := at_T43 HR1.out x5_1 p314 q314
             have hw314_5 := hx314_5
             have hw314_4 := hx314_4
             have hw314_3 := hx314_3
             have hw314_2 := hx314_2
             have hw314_1 := hx314_1
             have hw314_0 := hx314_0
             cases e314
             replace hx314_0 := (HB.out.cell (World.block_lt_of_cell? w _ hx314_0)).trans hx314_0
             replace hx314_1 := (HB.out.cell (World.block_lt_of_cell? w _ hx314_1)).trans hx314_1
             replace hx314_2 := (HB.out.cell (World.block_lt_of_cell? w _ hx314_2)).trans hx314_2
             replace hx314_3 := (HB.out.cell (World.block_lt_of_cell? w _ hx314_3)).trans hx314_3
             replace hx314_4 := (HB.out.cell (World.block_lt_of_cell? w _ hx314_4)).trans hx314_4
             replace hx314_5 := (HB.out.cell (World.block_lt_of_cell? w _ hx314_5)).trans hx314_5
             have HR314_5 := Aside0.mk hi314_5
             have HC314_5 := Aside0.mk hl314_5
             clear hi314_5 hl314_5
             replace p314 := eq_true p314
             replace q314 := eq_true q314
             refine start_ (n := 10) (S := fun w' => w'.cell? (ad313.add ((x5_1).toNat * 6)) = some (.string ((rd_T40 l0 x5_1).f0)) ∧ w'.cell? ⟨(ad313.add ((x5_1).toNat * 6)).block, (ad313.add ((x5_1).toNat * 6)).off + 1, none⟩ = some (.string ((rd_T40 l0 x5_1).f1)) ∧ w'.cell? ⟨(ad313.add ((x5_1).toNat * 6)).block, (ad313.add ((x5_1).toNat * 6)).off + 2, none⟩ = some (.int .i64 ((rd_T40 l0 x5_1).f2)) ∧ w'.cell? ⟨(ad313.add ((x5_1).toNat * 6)).block, (ad313.add ((x5_1).toNat * 6)).off + 3, none⟩ = some (.bool ((rd_T40 l0 x5_1).f3)) ∧ w'.cell? ⟨(ad313.add ((x5_1).toNat * 6)).block, (ad313.add ((x5_1).toNat * 6)).off + 4, none⟩ = some (.string ((rd_T40 l0 x5_1).f4)) ∧ w'.cell? ⟨(ad313.add ((x5_1).toNat * 6)).block, (ad313.add ((x5_1).toNat * 6)).off + 5, none⟩ = some (.slice A313_5 ((rd_T40 l0 x5_1).f5).length c313_5) ∧ w'.cell? (ad314.add ((x5_1).toNat * 6)) = some (.string ((rd_T43 l1 x5_1).f0)) ∧ w'.cell? ⟨(ad314.add ((x5_1).toNat * 6)).block, (ad314.add ((x5_1).toNat * 6)).off + 1, none⟩ = some (.string ((rd_T43 l1 x5_1).f1)) ∧ w'.cell? ⟨(ad314.add ((x5_1).toNat * 6)).block, (ad314.add ((x5_1).toNat * 6)).off + 2, none⟩ = some (.int .i64 ((rd_T43 l1 x5_1).f2)) ∧ w'.cell? ⟨(ad314.add ((x5_1).toNat * 6)).block, (ad314.add ((x5_1).toNat * 6)).off + 3, none⟩ = some (.bool ((rd_T43 l1 x5_1).f3)) ∧ w'.cell? ⟨(ad314.add ((x5_1).toNat * 6)).block, (ad314.add ((x5_1).toNat * 6)).off + 4, none⟩ = some (.string ((rd_T43 l1 x5_1).f4)) ∧ w'.cell? ⟨(ad314.add ((x5_1).toNat * 6)).block, (ad314.add ((x5_1).toNat * 6)).off + 5, none⟩ = some (.slice A314_5 ((rd_T43 l1 x5_1).f5).length c314_5)) (ds := []) #[false, false, false, false, false, false, false, false, false, false] (by kernel_rfl) rfl rfl ⟨((HB.out.cell (World.block_lt_of_cell? w _ hw313_0)).trans hw313_0), ((HB.out.cell (World.block_lt_of_cell? w _ hw313_1)).trans hw313_1), ((HB.out.cell (World.block_lt_of_cell? w _ hw313_2)).trans hw313_2), ((HB.out.cell (World.block_lt_of_cell? w _ hw313_3)).trans hw313_3), ((HB.out.cell (World.block_lt_of_cell? w _ hw313_4)).trans hw313_4), ((HB.out.cell (World.block_lt_of_cell? w _ hw313_5)).trans hw313_5), ((HB.out.cell (World.block_lt_of_cell? w _ hw314_0)).trans hw314_0), ((HB.out.cell (World.block_lt_of_cell? w _ hw314_1)).trans hw314_1), ((HB.out.cell (World.block_lt_of_cell? w _ hw314_2)).trans hw314_2), ((HB.out.cell (World.block_lt_of_cell? w _ hw314_3)).trans hw314_3), ((HB.out.cell (World.block_lt_of_cell? w _ hw314_4)).trans hw314_4), ((HB.out.cell (World.block_lt_of_cell? w _ hw314_5)).trans hw314_5)⟩ (fun hHeld => ?_); refine with_tabW wicketlaw11_list.tab6 wicketlaw11_list.bits6 (fun HT_ HW_ => ?_)
             generalize wr.drew = w9 at HB HR313_5 HR314_5 hx313_0 hx313_1 hx313_2 hx313_3 hx313_4 hx313_5 hx314_0 hx314_1 hx314_2 hx314_3 hx314_4 hx314_5 hHeld ⊢
             refine pure_ (i := 0) (N := some 17) (v := ?_) (a' := ?_) #[true, false, false, false, false, false, false, false, false, false] rfl rfl (any_of HT_.out (by kernel_rfl)) (fun _ _ _ h => h) (Or.inl ⟨by rfl, ?_⟩) ?_ ?_
             rotate_left
             · intro w'
               go_simp
               with_reducible rfl
             rotate_left
             · simp only [Act.put, List.setIfInBounds_toArray, List.set_cons_zero, List.set_cons_succ, i64_w, i32_w]
               rfl
             refine pure_ (i := 1) (N := some 18) (v := ?_) (a' := ?_) #[true, true, false, false, false, false, false, false, false, false] rfl rfl (any_of HT_.out (by kernel_rfl)) (fun _ _ _ h => h) (Or.inl ⟨by rfl, ?_⟩) ?_ ?_
             rotate_left
             · intro w'
               go_simp
               with_reducible rfl
             rotate_left
             · simp only [Act.put, List.setIfInBounds_toArray, List.set_cons_zero, List.set_cons_succ, i64_w, i32_w]
               rfl
             refine pure_ (i := 2) (N := some 19) (v := ?_) (a' := ?_) #[true, true, true, false, false, false, false, false, false, false] rfl rfl (any_of HT_.out (by kernel_rfl)) (fun _ _ _ h => h) (Or.inl ⟨by rfl, ?_⟩) ?_ ?_
             rotate_left
             · intro w'
               go_simp
               with_reducible rfl
             rotate_left
             · simp only [Act.put, List.setIfInBounds_toArray, List.set_cons_zero, List.set_cons_succ, i64_w, i32_w]
               rfl
             refine pure_ (i := 4) (N := some 21) (v := ?_) (a' := ?_) #[true, true, true, false, true, false, false, false, false, false] rfl rfl (any_of HT_.out (by kernel_rfl)) (fun _ _ _ h => h) (Or.inl ⟨by rfl, ?_⟩) ?_ ?_
             rotate_left
             · intro w'
               go_simp
               with_reducible rfl
             rotate_left
             · simp only [Act.put, List.setIfInBounds_toArray, List.set_cons_zero, List.set_cons_succ, i64_w, i32_w]
               rfl
             refine pure_ (i := 5) (N := some 22) (v := ?_) (a' := ?_) #[true, true, true, false, true, true, false, false, false, false] rfl rfl (any_of HT_.out (by kernel_rfl)) (fun _ _ _ h => h) (Or.inl ⟨by rfl, ?_⟩) ?_ ?_
             rotate_left
             · intro w'
               go_simp
               with_reducible rfl
             rotate_left
             · simp only [Act.put, List.setIfInBounds_toArray, List.set_cons_zero, List.set_cons_succ, i64_w, i32_w]
               rfl
             refine pure_ (i := 6) (N := some 23) (v := ?_) (a' := ?_) #[true, true, true, false, true, true, true, false, false, false] rfl rfl (any_of HT_.out (by kernel_rfl)) (fun _ _ _ h => h) (Or.inl ⟨by rfl, ?_⟩) ?_ ?_
             rotate_left
             · intro w'
               go_simp
               with_reducible rfl
             rotate_left
             · simp only [Act.put, List.setIfInBounds_toArray, List.set_cons_zero, List.set_cons_succ, i64_w, i32_w]
               rfl
             refine take_ (i := 3) (N := some 20) (v := ?_) (a' := ?_) #[true, true, true, true, true, true, true, false, false, false] rfl rfl (take_ofW HT_.out HW_.out (by kernel_rfl)) (fun _ _ _ h => h) (Or.inl ⟨by rfl, ?_⟩) hHeld ?_ ?_
             rotate_left
             · rintro w' ⟨s0, s1, s2, s3, s4, s5, s6, s7, s8, s9, s10, s11⟩
               go_simp
               with_reducible rfl
             rotate_left
             · simp only [Act.put, List.setIfInBounds_toArray, List.set_cons_zero, List.set_cons_succ, i64_w, i32_w]
               rfl
             refine take_ (i := 7) (N := some 24) (v := ?_) (a' := ?_) #[true, true, true, true, true, true, true, true, false, false] rfl rfl (take_ofW HT_.out HW_.out (by kernel_rfl)) (fun _ _ _ h => h) (Or.inl ⟨by rfl, ?_⟩) hHeld ?_ ?_
             rotate_left
             · rintro w' ⟨s0, s1, s2, s3, s4, s5, s6, s7, s8, s9, s10, s11⟩
               go_simp
               with_reducible rfl
             rotate_left
             · simp only [Act.put, List.setIfInBounds_toArray, List.set_cons_zero, List.set_cons_succ, i64_w, i32_w]
               rfl
             refine one_ (i := 8) (N := some 25) #[true, true, true, true, true, true, true, true, true, false] rfl rfl (one_of HT_.out (by kernel_rfl)) (by decide) (fun K hK => ?_)
             refine goes_ Tryz.func31 (by kernel_rfl) rfl #[.agg #[.string ((rd_T40 l0 x5_1).f0), .string ((rd_T40 l0 x5_1).f1), .int .i64 ((rd_T40 l0 x5_1).f2), .bool ((rd_T40 l0 x5_1).f3), .string ((rd_T40 l0 x5_1).f4), .slice A313_5 ((rd_T40 l0 x5_1).f5).length c313_5], .agg #[.string ((rd_T43 l1 x5_1).f0), .string ((rd_T43 l1 x5_1).f1), .int .i64 ((rd_T43 l1 x5_1).f2), .bool ((rd_T43 l1 x5_1).f3), .string ((rd_T43 l1 x5_1).f4), .slice A314_5 ((rd_T43 l1 x5_1).f5).length c314_5]] rfl rfl rfl (by ((try simp only [List.map_toArray, List.map_cons, List.map_nil]); (rfl))) ?_
             with_reducible refine (wicketlaw11_same.calls k1 ((rd_T40 l0 x5_1).f0) ((rd_T40 l0 x5_1).f1) ((rd_T40 l0 x5_1).f2) ((rd_T40 l0 x5_1).f3) ((rd_T40 l0 x5_1).f4) _ _ ((rd_T40 l0 x5_1).f5) ((rd_T43 l1 x5_1).f0) ((rd_T43 l1 x5_1).f1) ((rd_T43 l1 x5_1).f2) ((rd_T43 l1 x5_1).f3) ((rd_T43 l1 x5_1).f4) _ _ ((rd_T43 l1 x5_1).f5) true _ ?side1 ?side2 ?side3 ?side4 A7.out).mono ?_
             (case side1 => repeat (exact (Kd.C_below HR313_5.out HB.out)))
             (case side2 => exact HC313_5.out)
             (case side3 => repeat (exact (Kd.C_below HR314_5.out HB.out)))
             (case side4 => exact HC314_5.out)
             rintro e w10 ⟨rfl, hb⟩
             refine ⟨_, rfl, ?_⟩
             have n0_ := Aside0.mk (below_step HB.out hb)
             clear HB
             have HB := n0_
             clear n0_ hb
             refine hK.out _ _ ⟨((HB.out.cell (World.block_lt_of_cell? w _ hw313_0)).trans hw313_0), ((HB.out.cell (World.block_lt_of_cell? w _ hw313_1)).trans hw313_1), ((HB.out.cell (World.block_lt_of_cell? w _ hw313_2)).trans hw313_2), ((HB.out.cell (World.block_lt_of_cell? w _ hw313_3)).trans hw313_3), ((HB.out.cell (World.block_lt_of_cell? w _ hw313_4)).trans hw313_4), ((HB.out.cell (World.block_lt_of_cell? w _ hw313_5)).trans hw313_5), ((HB.out.cell (World.block_lt_of_cell? w _ hw314_0)).trans hw314_0), ((HB.out.cell (World.block_lt_of_cell? w _ hw314_1)).trans hw314_1), ((HB.out.cell (World.block_lt_of_cell? w _ hw314_2)).trans hw314_2), ((HB.out.cell (World.block_lt_of_cell? w _ hw314_3)).trans hw314_3), ((HB.out.cell (World.block_lt_of_cell? w _ hw314_4)).trans hw314_4), ((HB.out.cell (World.block_lt_of_cell? w _ hw314_5)).trans hw314_5)⟩ (fun hHeld => ?_)
             clear hK K
             refine norm_ (a' := ?_) ?_ ?_
             rotate_left
             · show Act.put _ (some 25) _ = _
               simp only [Act.put, List.setIfInBounds_toArray, List.set_cons_zero, List.set_cons_succ, i64_w, i32_w]
               rfl
             refine pure_ (i := 9) (N := some 26) (v := ?_) (a' := ?_) #[true, true, true, true, true, true, true, true, true, true] rfl rfl (any_of HT_.out (by kernel_rfl)) (fun _ _ _ h => h) (Or.inl ⟨by rfl, ?_⟩) ?_ ?_
             rotate_left
             · intro w'
               go_simp
               with_reducible rfl
             rotate_left
             · simp only [Act.put, List.setIfInBounds_toArray, List.set_cons_zero, List.set_cons_succ, i64_w, i32_w]
               rfl
             refine done_ (done_of HT_.out (by kernel_rfl)) ?_
             try go_wp2
             go_roundg k1
             case measure => have := HK1.out; omega
             case rel => exact ⟨(wrap64 (x5_1 + 1)), rfl, H', ⟨by have := HK1.out; omega⟩, ⟨HB.out⟩⟩
           · replace c8 := Bool.eq_false_iff.mpr c8
             subst c8
             have H1 : (some false) = some r := by rw [if_neg (show ¬ (false = true) by decide)] at H; exact H
             clear H
             have H := H1
             clear H1
             obtain rfl := Option.some.inj H
             try go_wp2
             have n0_ := Aside0.mk (below_drew1 HB.out)
             clear HB
             have HB := n0_
             clear n0_
             have p313 : 0 ≤ (x5_1 : Int) := of_decide_eq_true (by assumption)
             have q313 : x5_1 < (l0.length : Int) := of_decide_eq_true (by assumption)
             obtain ⟨ad313, A313_5, c313_5, e313, hx313_0, hx313_1, hx313_2, hx313_3, hx313_4, hx313_5, hl313_5, hi313_5⟩ := at_T40 HR0.out x5_1 p313 q313
             have hw313_5 := hx313_5
             have hw313_4 := hx313_4
             have hw313_3 := hx313_3
             have hw313_2 := hx313_2
             have hw313_1 := hx313_1
             have hw313_0 := hx313_0
             cases e313
             replace hx313_0 := (HB.out.cell (World.block_lt_of_cell? w _ hx313_0)).trans hx313_0
             replace hx313_1 := (HB.out.cell (World.block_lt_of_cell? w _ hx313_1)).trans hx313_1
             replace hx313_2 := (HB.out.cell (World.block_lt_of_cell? w _ hx313_2)).trans hx313_2
             replace hx313_3 := (HB.out.cell (World.block_lt_of_cell? w _ hx313_3)).trans hx313_3
             replace hx313_4 := (HB.out.cell (World.block_lt_of_cell? w _ hx313_4)).trans hx313_4
             replace hx313_5 := (HB.out.cell (World.block_lt_of_cell? w _ hx313_5)).trans hx313_5
             have HR313_5 := Aside0.mk hi313_5
             have HC313_5 := Aside0.mk hl313_5
             clear hi313_5 hl313_5
             replace p313 := eq_true p313
             replace q313 := eq_true q313
             have p314 : 0 ≤ (x5_1 : Int) := of_decide_eq_true (by assumption)
             have q314 : x5_1 < (l1.length : Int) := of_decide_eq_true (by assumption)
             obtain ⟨ad314, A314_5, c314_5, e314, hx314_0, hx314_1, hx314_2, hx314_3, hx314_4, hx314_5, hl314_5, hi314_5⟩ := at_T43 HR1.out x5_1 p314 q314
             have hw314_5 := hx314_5
             have hw314_4 := hx314_4
             have hw314_3 := hx314_3
             have hw314_2 := hx314_2
             have hw314_1 := hx314_1
             have hw314_0 := hx314_0
             cases e314
             replace hx314_0 := (HB.out.cell (World.block_lt_of_cell? w _ hx314_0)).trans hx314_0
             replace hx314_1 := (HB.out.cell (World.block_lt_of_cell? w _ hx314_1)).trans hx314_1
             replace hx314_2 := (HB.out.cell (World.block_lt_of_cell? w _ hx314_2)).trans hx314_2
             replace hx314_3 := (HB.out.cell (World.block_lt_of_cell? w _ hx314_3)).trans hx314_3
             replace hx314_4 := (HB.out.cell (World.block_lt_of_cell? w _ hx314_4)).trans hx314_4
             replace hx314_5 := (HB.out.cell (World.block_lt_of_cell? w _ hx314_5)).trans hx314_5
             have HR314_5 := Aside0.mk hi314_5
             have HC314_5 := Aside0.mk hl314_5
             clear hi314_5 hl314_5
             replace p314 := eq_true p314
             replace q314 := eq_true q314
             refine start_ (n := 10) (S := fun w' => w'.cell? (ad313.add ((x5_1).toNat * 6)) = some (.string ((rd_T40 l0 x5_1).f0)) ∧ w'.cell? ⟨(ad313.add ((x5_1).toNat * 6)).block, (ad313.add ((x5_1).toNat * 6)).off + 1, none⟩ = some (.string ((rd_T40 l0 x5_1).f1)) ∧ w'.cell? ⟨(ad313.add ((x5_1).toNat * 6)).block, (ad313.add ((x5_1).toNat * 6)).off + 2, none⟩ = some (.int .i64 ((rd_T40 l0 x5_1).f2)) ∧ w'.cell? ⟨(ad313.add ((x5_1).toNat * 6)).block, (ad313.add ((x5_1).toNat * 6)).off + 3, none⟩ = some (.bool ((rd_T40 l0 x5_1).f3)) ∧ w'.cell? ⟨(ad313.add ((x5_1).toNat * 6)).block, (ad313.add ((x5_1).toNat * 6)).off + 4, none⟩ = some (.string ((rd_T40 l0 x5_1).f4)) ∧ w'.cell? ⟨(ad313.add ((x5_1).toNat * 6)).block, (ad313.add ((x5_1).toNat * 6)).off + 5, none⟩ = some (.slice A313_5 ((rd_T40 l0 x5_1).f5).length c313_5) ∧ w'.cell? (ad314.add ((x5_1).toNat * 6)) = some (.string ((rd_T43 l1 x5_1).f0)) ∧ w'.cell? ⟨(ad314.add ((x5_1).toNat * 6)).block, (ad314.add ((x5_1).toNat * 6)).off + 1, none⟩ = some (.string ((rd_T43 l1 x5_1).f1)) ∧ w'.cell? ⟨(ad314.add ((x5_1).toNat * 6)).block, (ad314.add ((x5_1).toNat * 6)).off + 2, none⟩ = some (.int .i64 ((rd_T43 l1 x5_1).f2)) ∧ w'.cell? ⟨(ad314.add ((x5_1).toNat * 6)).block, (ad314.add ((x5_1).toNat * 6)).off + 3, none⟩ = some (.bool ((rd_T43 l1 x5_1).f3)) ∧ w'.cell? ⟨(ad314.add ((x5_1).toNat * 6)).block, (ad314.add ((x5_1).toNat * 6)).off + 4, none⟩ = some (.string ((rd_T43 l1 x5_1).f4)) ∧ w'.cell? ⟨(ad314.add ((x5_1).toNat * 6)).block, (ad314.add ((x5_1).toNat * 6)).off + 5, none⟩ = some (.slice A314_5 ((rd_T43 l1 x5_1).f5).length c314_5)) (ds := []) #[false, false, false, false, false, false, false, false, false, false] (by kernel_rfl) rfl rfl ⟨((HB.out.cell (World.block_lt_of_cell? w _ hw313_0)).trans hw313_0), ((HB.out.cell (World.block_lt_of_cell? w _ hw313_1)).trans hw313_1), ((HB.out.cell (World.block_lt_of_cell? w _ hw313_2)).trans hw313_2), ((HB.out.cell (World.block_lt_of_cell? w _ hw313_3)).trans hw313_3), ((HB.out.cell (World.block_lt_of_cell? w _ hw313_4)).trans hw313_4), ((HB.out.cell (World.block_lt_of_cell? w _ hw313_5)).trans hw313_5), ((HB.out.cell (World.block_lt_of_cell? w _ hw314_0)).trans hw314_0), ((HB.out.cell (World.block_lt_of_cell? w _ hw314_1)).trans hw314_1), ((HB.out.cell (World.block_lt_of_cell? w _ hw314_2)).trans hw314_2), ((HB.out.cell (World.block_lt_of_cell? w _ hw314_3)).trans hw314_3), ((HB.out.cell (World.block_lt_of_cell? w _ hw314_4)).trans hw314_4), ((HB.out.cell (World.block_lt_of_cell? w _ hw314_5)).trans hw314_5)⟩ (fun hHeld => ?_); refine with_tabW wicketlaw11_list.tab6 wicketlaw11_list.bits6 (fun HT_ HW_ => ?_)
             generalize wr.drew = w11 at HB HR313_5 HR314_5 hx313_0 hx313_1 hx313_2 hx313_3 hx313_4 hx313_5 hx314_0 hx314_1 hx314_2 hx314_3 hx314_4 hx314_5 hHeld ⊢
             refine pure_ (i := 0) (N := some 17) (v := ?_) (a' := ?_) #[true, false, false, false, false, false, false, false, false, false] rfl rfl (any_of HT_.out (by kernel_rfl)) (fun _ _ _ h => h) (Or.inl ⟨by rfl, ?_⟩) ?_ ?_
             rotate_left
             · intro w'
               go_simp
               with_reducible rfl
             rotate_left
             · simp only [Act.put, List.setIfInBounds_toArray, List.set_cons_zero, List.set_cons_succ, i64_w, i32_w]
               rfl
             refine pure_ (i := 1) (N := some 18) (v := ?_) (a' := ?_) #[true, true, false, false, false, false, false, false, false, false] rfl rfl (any_of HT_.out (by kernel_rfl)) (fun _ _ _ h => h) (Or.inl ⟨by rfl, ?_⟩) ?_ ?_
             rotate_left
             · intro w'
               go_simp
               with_reducible rfl
             rotate_left
             · simp only [Act.put, List.setIfInBounds_toArray, List.set_cons_zero, List.set_cons_succ, i64_w, i32_w]
               rfl
             refine pure_ (i := 2) (N := some 19) (v := ?_) (a' := ?_) #[true, true, true, false, false, false, false, false, false, false] rfl rfl (any_of HT_.out (by kernel_rfl)) (fun _ _ _ h => h) (Or.inl ⟨by rfl, ?_⟩) ?_ ?_
             rotate_left
             · intro w'
               go_simp
               with_reducible rfl
             rotate_left
             · simp only [Act.put, List.setIfInBounds_toArray, List.set_cons_zero, List.set_cons_succ, i64_w, i32_w]
               rfl
             refine pure_ (i := 4) (N := some 21) (v := ?_) (a' := ?_) #[true, true, true, false, true, false, false, false, false, false] rfl rfl (any_of HT_.out (by kernel_rfl)) (fun _ _ _ h => h) (Or.inl ⟨by rfl, ?_⟩) ?_ ?_
             rotate_left
             · intro w'
               go_simp
               with_reducible rfl
             rotate_left
             · simp only [Act.put, List.setIfInBounds_toArray, List.set_cons_zero, List.set_cons_succ, i64_w, i32_w]
               rfl
             refine pure_ (i := 5) (N := some 22) (v := ?_) (a' := ?_) #[true, true, true, false, true, true, false, false, false, false] rfl rfl (any_of HT_.out (by kernel_rfl)) (fun _ _ _ h => h) (Or.inl ⟨by rfl, ?_⟩) ?_ ?_
             rotate_left
             · intro w'
               go_simp
               with_reducible rfl
             rotate_left
             · simp only [Act.put, List.setIfInBounds_toArray, List.set_cons_zero, List.set_cons_succ, i64_w, i32_w]
               rfl
             refine pure_ (i := 6) (N := some 23) (v := ?_) (a' := ?_) #[true, true, true, false, true, true, true, false, false, false] rfl rfl (any_of HT_.out (by kernel_rfl)) (fun _ _ _ h => h) (Or.inl ⟨by rfl, ?_⟩) ?_ ?_
             rotate_left
             · intro w'
               go_simp
               with_reducible rfl
             rotate_left
             · simp only [Act.put, List.setIfInBounds_toArray, List.set_cons_zero, List.set_cons_succ, i64_w, i32_w]
               rfl
             refine take_ (i := 3) (N := some 20) (v := ?_) (a' := ?_) #[true, true, true, true, true, true, true, false, false, false] rfl rfl (take_ofW HT_.out HW_.out (by kernel_rfl)) (fun _ _ _ h => h) (Or.inl ⟨by rfl, ?_⟩) hHeld ?_ ?_
             rotate_left
             · rintro w' ⟨s0, s1, s2, s3, s4, s5, s6, s7, s8, s9, s10, s11⟩
               go_simp
               with_reducible rfl
             rotate_left
             · simp only [Act.put, List.setIfInBounds_toArray, List.set_cons_zero, List.set_cons_succ, i64_w, i32_w]
               rfl
             refine take_ (i := 7) (N := some 24) (v := ?_) (a' := ?_) #[true, true, true, true, true, true, true, true, false, false] rfl rfl (take_ofW HT_.out HW_.out (by kernel_rfl)) (fun _ _ _ h => h) (Or.inl ⟨by rfl, ?_⟩) hHeld ?_ ?_
             rotate_left
             · rintro w' ⟨s0, s1, s2, s3, s4, s5, s6, s7, s8, s9, s10, s11⟩
               go_simp
               with_reducible rfl
             rotate_left
             · simp only [Act.put, List.setIfInBounds_toArray, List.set_cons_zero, List.set_cons_succ, i64_w, i32_w]
               rfl
             refine one_ (i := 8) (N := some 25) #[true, true, true, true, true, true, true, true, true, false] rfl rfl (one_of HT_.out (by kernel_rfl)) (by decide) (fun K hK => ?_)
             refine goes_ Tryz.func31 (by kernel_rfl) rfl #[.agg #[.string ((rd_T40 l0 x5_1).f0), .string ((rd_T40 l0 x5_1).f1), .int .i64 ((rd_T40 l0 x5_1).f2), .bool ((rd_T40 l0 x5_1).f3), .string ((rd_T40 l0 x5_1).f4), .slice A313_5 ((rd_T40 l0 x5_1).f5).length c313_5], .agg #[.string ((rd_T43 l1 x5_1).f0), .string ((rd_T43 l1 x5_1).f1), .int .i64 ((rd_T43 l1 x5_1).f2), .bool ((rd_T43 l1 x5_1).f3), .string ((rd_T43 l1 x5_1).f4), .slice A314_5 ((rd_T43 l1 x5_1).f5).length c314_5]] rfl rfl rfl (by ((try simp only [List.map_toArray, List.map_cons, List.map_nil]); (rfl))) ?_
             with_reducible refine (wicketlaw11_same.calls k1 ((rd_T40 l0 x5_1).f0) ((rd_T40 l0 x5_1).f1) ((rd_T40 l0 x5_1).f2) ((rd_T40 l0 x5_1).f3) ((rd_T40 l0 x5_1).f4) _ _ ((rd_T40 l0 x5_1).f5) ((rd_T43 l1 x5_1).f0) ((rd_T43 l1 x5_1).f1) ((rd_T43 l1 x5_1).f2) ((rd_T43 l1 x5_1).f3) ((rd_T43 l1 x5_1).f4) _ _ ((rd_T43 l1 x5_1).f5) false _ ?side1 ?side2 ?side3 ?side4 A7.out).mono ?_
             (case side1 => repeat (exact (Kd.C_below HR313_5.out HB.out)))
             (case side2 => exact HC313_5.out)
             (case side3 => repeat (exact (Kd.C_below HR314_5.out HB.out)))
             (case side4 => exact HC314_5.out)
             rintro e w12 ⟨rfl, hb⟩
             refine ⟨_, rfl, ?_⟩
             have n0_ := Aside0.mk (below_step HB.out hb)
             clear HB
             have HB := n0_
             clear n0_ hb
             refine hK.out _ _ ⟨((HB.out.cell (World.block_lt_of_cell? w _ hw313_0)).trans hw313_0), ((HB.out.cell (World.block_lt_of_cell? w _ hw313_1)).trans hw313_1), ((HB.out.cell (World.block_lt_of_cell? w _ hw313_2)).trans hw313_2), ((HB.out.cell (World.block_lt_of_cell? w _ hw313_3)).trans hw313_3), ((HB.out.cell (World.block_lt_of_cell? w _ hw313_4)).trans hw313_4), ((HB.out.cell (World.block_lt_of_cell? w _ hw313_5)).trans hw313_5), ((HB.out.cell (World.block_lt_of_cell? w _ hw314_0)).trans hw314_0), ((HB.out.cell (World.block_lt_of_cell? w _ hw314_1)).trans hw314_1), ((HB.out.cell (World.block_lt_of_cell? w _ hw314_2)).trans hw314_2), ((HB.out.cell (World.block_lt_of_cell? w _ hw314_3)).trans hw314_3), ((HB.out.cell (World.block_lt_of_cell? w _ hw314_4)).trans hw314_4), ((HB.out.cell (World.block_lt_of_cell? w _ hw314_5)).trans hw314_5)⟩ (fun hHeld => ?_)
             clear hK K
             refine norm_ (a' := ?_) ?_ ?_
             rotate_left
             · show Act.put _ (some 25) _ = _
               simp only [Act.put, List.setIfInBounds_toArray, List.set_cons_zero, List.set_cons_succ, i64_w, i32_w]
               rfl
             refine pure_ (i := 9) (N := some 26) (v := ?_) (a' := ?_) #[true, true, true, true, true, true, true, true, true, true] rfl rfl (any_of HT_.out (by kernel_rfl)) (fun _ _ _ h => h) (Or.inl ⟨by rfl, ?_⟩) ?_ ?_
             rotate_left
             · intro w'
               go_simp
               with_reducible rfl
             rotate_left
             · simp only [Act.put, List.setIfInBounds_toArray, List.set_cons_zero, List.set_cons_succ, i64_w, i32_w]
               rfl
             refine done_ (done_of HT_.out (by kernel_rfl)) ?_
             try go_wp2
             go_ret
             exact ⟨by (rfl), by (with_reducible exact HB.out)⟩
         · rw [if_neg c6] at H
           exact absurd H (by simp)
       · rw [if_neg c5] at H
         exact absurd H (by simp)
     · rw [if_neg c4] at H
       have c4b0 : decide (x5_1 < (l0.length : Int)) = false := decide_eq_false c4
       clear c4
       obtain rfl := Option.some.inj H
       go_wp2
       go_ret
       exact ⟨by (rfl), by (with_reducible exact HB.out)⟩
 · rw [if_neg c3] at H
   have c3b0 : ((l0.length : Int) == (l1.length : Int)) = false := beq_eq_false_iff_ne.mpr c3
   have c3b1 : ((l0.length : Int) != (l1.length : Int)) = true := bne_iff_ne.mpr c3
   have c3b2 : (l0.length == l1.length) = false := by (simp at c3 ⊢; omega)
   obtain rfl := Option.some.inj H
   go_enter Tryz.func20, Tryz.ntmps20
   go_wp2
   go_ret
   exact ⟨by (rfl), by (with_reducible exact HB.out)⟩
end Go.Proofs.YtmimipgmhgalaaaGreatDoor.PAll
end
section
namespace Go.Proofs.YtmimipgmhgalaaaGreatDoor.PAll
open Go.RowKit Go.Proofs.YtmimipgmhgalaaaGreatDoorW.PrintWords Go.Proofs.YtmimipgmhgalaaaGreatDoorW.PrintLast Go.Proofs.YtmimipgmhgalaaaGreatDoorW.PrintMore
attribute [local go_sem] max2_int min2_int max_two min_two max_three min_three max_four min_four
set_option linter.unusedVariables false
set_option linter.unusedSimpArgs false
def wicketref11_Find.l0 : Nat → List (S43) → ByteArray → Int → Option (ByteArray × ByteArray × Int × Bool × ByteArray × List ByteArray × Bool)
 | 0, _, _, _ => none
 | k + 1, x0, x1, x6 => if x6 < (x0.length : Int) then (if 0 ≤ x6 then (if ((rd_T43 x0 x6).f0).toList = x1.toList then (some ((rd_T43 x0 x6).f0, (rd_T43 x0 x6).f1, (rd_T43 x0 x6).f2, (rd_T43 x0 x6).f3, (rd_T43 x0 x6).f4, (rd_T43 x0 x6).f5, true)) else (wicketref11_Find.l0 k x0 x1 (wrap64 (x6 + 1)))) else (none)) else (some ((⟨#[]⟩ : ByteArray), (⟨#[]⟩ : ByteArray), 0, false, (⟨#[]⟩ : ByteArray), ([] : List ByteArray), false))
def wicketref11_Find.f (k : Nat) (l0 : List (S43)) (a1 : ByteArray) : Option (ByteArray × ByteArray × Int × Bool × ByteArray × List ByteArray × Bool) := wicketref11_Find.l0 k l0 a1 0
set_option maxHeartbeats 8000000 in
set_option maxRecDepth 100000 in
theorem wicketref11_Find.calls (k : Nat) (P0_ : Nat → Prop) (A0 : Option Addr) (c0 : Nat) (l0 : List (S43)) (a1 : ByteArray) (r1 : ByteArray) (r2 : ByteArray) (r3 : Int) (r4 : Bool) (r5 : ByteArray) (r6 : List ByteArray) (r7 : Bool) (w : World) (hs0 : Kd.V k43 43 w w.heap.size (fun k_ => P0_ k_) (.slice A0 l0.length c0) l0) (h : wicketref11_Find.f k l0 a1 = some (r1, r2, r3, r4, r5, r6, r7)) :
 Calls Tryz.prog 30 #[.slice A0 l0.length c0, .string a1] w fun e w' => ∃ v5_ : Value, e = .returned (.tuple #[.agg #[.string r1, .string r2, .int .i64 r3, .bool r4, .string r5, v5_], .bool r7]) ∧ Kd.V Kd.string 9 w' w.heap.size (fun k_ => (P0_ k_ ∨ w.heap.size ≤ k_)) v5_ r6 ∧ Below w.heap.size w w' := by
 have hu43 := Tryz.underlying43
 have HO0 := Aside0.mk (show Kd.V k43 43 w w.heap.size (fun k_ => (P0_ k_ ∨ w.heap.size ≤ k_)) (.slice A0 l0.length c0) l0 from Kd.V_mono hs0 (fun k_ hk => .inl hk))
 have HB := Aside0.mk (Below.refl w.heap.size w)
 have H : (wicketref11_Find.l0 k l0 a1 0) = some (r1, r2, r3, r4, r5, r6, r7) := h
 clear h
 have H' := Aside0.mk H
 clear H
 go_enter Tryz.func30, Tryz.ntmps30
 go_wp2_with (first | ((with_reducible refine gate_dst (N := 4) rfl ?_); refine box_event ?hg (N := 4) ?hd (cs := #[.string (⟨#[]⟩ : ByteArray), .string (⟨#[]⟩ : ByteArray), .int .i64 0, .bool false, .string (⟨#[]⟩ : ByteArray), .slice none 0 0]) (t := 43) ?hr ?_; (case hd => rfl); (case hg => rfl); (case hr => (go_simp; done)); intro gb406 hg w3 hbox hb; replace HO0 := Aside0.mk (Kd.V_below (Kd.V_elderB HO0.out gb406 (Nat.le_of_eq hg.symm)) hb); have BK406 := Aside0.mk hbox; have GW406 := Aside0.mk ((by rw [hg]; exact (below_size HB.out) : w.heap.size ≤ gb406)); have GE406 := Aside0.mk ((by rw [hg]; exact (below_size HB.out) : w.heap.size ≤ gb406)); replace HB := Aside0.mk (below_step HB.out hb); clear hb hbox hg))
 go_loopg [6] k (fun kq v6 w' => ∃ (x6_1 : Int) (x407000_1 : ByteArray) (x407001_1 : ByteArray) (x407002_1 : Int) (x407003_1 : Bool) (x407004_1 : ByteArray), v6 = .int .i64 x6_1 ∧ Aside0 (wicketref11_Find.l0 kq l0 a1 x6_1 = some (r1, r2, r3, r4, r5, r6, r7)) ∧ Aside0 (kq ≤ k) ∧ Aside0 (Kd.V k43 43 w' w.heap.size (fun k_ => (P0_ k_ ∨ w.heap.size ≤ k_) ∧ k_ ≠ gb406) (.slice A0 l0.length c0) l0) ∧ Aside0 (w'.heap[gb406]? = some (.cells #[.string x407000_1, .string x407001_1, .int .i64 x407002_1, .bool x407003_1, .string x407004_1, (.slice none 0 0)] 43 (0, 0))) ∧ Aside0 (Below w.heap.size w w'))
 case atStart => exact ⟨(0), ((⟨#[]⟩ : ByteArray)), ((⟨#[]⟩ : ByteArray)), (0), (false), ((⟨#[]⟩ : ByteArray)), rfl, H', ⟨Nat.le_refl _⟩, ⟨HO0.out⟩, ⟨BK406.out⟩, ⟨HB.out⟩⟩
 case round =>
  clear H'
  obtain ⟨x6_1, x407000_1, x407001_1, x407002_1, x407003_1, x407004_1, rfl, HA, HK1, HO_0, BK406, HB⟩ := hrel
  cases gk with
  | zero => exact absurd HA.out (by simp [wicketref11_Find.l0])
  | succ k1 =>
   have H := HA.out
   clear HA
   simp only [wicketref11_Find.l0] at H
   by_cases c4 : x6_1 < (l0.length : Int)
   · rw [if_pos c4] at H
     have c4b0 : decide (x6_1 < (l0.length : Int)) = true := decide_eq_true c4
     clear c4
     by_cases c5 : 0 ≤ x6_1
     · rw [if_pos c5] at H
       have c5b0 : decide (0 ≤ x6_1) = true := decide_eq_true c5
       clear c5
       by_cases c6 : ((rd_T43 l0 x6_1).f0).toList = a1.toList
       · rw [if_pos c6] at H
         have c6b0 : (((rd_T43 l0 x6_1).f0).toList == a1.toList) = true := beq_iff_eq.mpr c6
         have c6b1 : (((rd_T43 l0 x6_1).f0).toList != a1.toList) = false := bne_eq_false_iff_eq.mpr c6
         clear c6
         simp only [Option.some.injEq, Prod.mk.injEq] at H
         obtain ⟨rfl, rfl, rfl, rfl, rfl, rfl, rfl⟩ := H
         have p407 : 0 ≤ (x6_1 : Int) := of_decide_eq_true (by assumption)
         have q407 : x6_1 < (l0.length : Int) := of_decide_eq_true (by assumption)
         obtain ⟨ad407, A407_5, c407_5, e407, hx407_0, hx407_1, hx407_2, hx407_3, hx407_4, hx407_5, hl407_5, hi407_5⟩ := at_T43 (Kd.V_reads' HO_0.out).2.2 x6_1 p407 q407
         cases e407
         obtain ⟨ce407, hce407, hMe407, hcc407⟩ := Kd.V_get HO_0.out z43 x6_1 p407 (by exact q407)
         obtain ⟨ua407_5, uc407_5, rfl, ul407_5, ge407_5⟩ := k43_openF hMe407
         have hv407_5 := hcc407 5 _ rfl
         rw [add_field _ _ 5 (by omega)] at hv407_5
         replace hv407_5 := Option.some.inj (hv407_5.symm.trans hx407_5)
         injection hv407_5 with hva_ hvn_ hvc_
         rw [hva_] at ge407_5
         rw [hvc_] at ul407_5
         have HL407_5 := Aside0.mk (show Kd.V Kd.string 9 _ w.heap.size _ _ ((rd_T43 l0 x6_1).f5) from Kd.V_mk ul407_5 ge407_5)
         clear hva_ hvn_ hvc_ ge407_5 ul407_5 hcc407 hce407
         have HR407_5 := Aside0.mk hi407_5
         have HC407_5 := Aside0.mk hl407_5
         clear hi407_5 hl407_5
         replace p407 := eq_true p407
         replace q407 := eq_true q407
         have p408 : 0 ≤ (x6_1 : Int) := of_decide_eq_true (by assumption)
         have q408 : x6_1 < (l0.length : Int) := of_decide_eq_true (by assumption)
         obtain ⟨ad408, A408_5, c408_5, e408, hx408_0, hx408_1, hx408_2, hx408_3, hx408_4, hx408_5, hl408_5, hi408_5⟩ := at_T43 (Kd.V_reads' HO_0.out).2.2 x6_1 p408 q408
         obtain rfl : ad407 = ad408 := (by injection e408)
         obtain ⟨ce408, hce408, hMe408, hcc408⟩ := Kd.V_get HO_0.out z43 x6_1 p408 (by exact q408)
         obtain ⟨ua408_5, uc408_5, rfl, ul408_5, ge408_5⟩ := k43_openF hMe408
         have hv408_5 := hcc408 5 _ rfl
         rw [add_field _ _ 5 (by omega)] at hv408_5
         replace hv408_5 := Option.some.inj (hv408_5.symm.trans hx408_5)
         injection hv408_5 with hva_ hvn_ hvc_
         rw [hva_] at ge408_5
         rw [hvc_] at ul408_5
         have HL408_5 := Aside0.mk (show Kd.V Kd.string 9 _ w.heap.size _ _ ((rd_T43 l0 x6_1).f5) from Kd.V_mk ul408_5 ge408_5)
         clear hva_ hvn_ hvc_ ge408_5 ul408_5 hcc408 hce408
         have HR408_5 := Aside0.mk hi408_5
         have HC408_5 := Aside0.mk hl408_5
         clear hi408_5 hl408_5
         replace p408 := eq_true p408
         replace q408 := eq_true q408
         have ea_ := Option.some.inj (hx407_5.symm.trans hx408_5)
         injection ea_ with ea_ en_ ec_
         subst ea_
         subst ec_
         clear en_
         obtain ⟨hcz7_0, hcz7_1, hcz7_2, hcz7_3, hcz7_4, hcz7_5, hfz7_0, hfz7_1, hfz7_2, hfz7_3, hfz7_4, hfz7_5⟩ := cz6_ BK406.out
         go_wp2
         refine bodyPost_ret (results_ct rfl _ _ gb406 43 #[.string ((rd_T43 l0 x6_1).f0), .string ((rd_T43 l0 x6_1).f1), .int .i64 ((rd_T43 l0 x6_1).f2), .bool ((rd_T43 l0 x6_1).f3), .string ((rd_T43 l0 x6_1).f4), .slice A407_5 ((rd_T43 l0 x6_1).f5).length c407_5] (0, 0) _ rfl (put6_ BK406.out _ _ _ _ _ _) Tryz.underlying43 rfl (by kernel_rfl)) rfl ?_
         exact ⟨_, rfl, by (with_reducible repeat (first | apply Kd.V_alloc  | apply Kd.V_drewN  | apply Kd.V_drew)); exact Kd.V_mono (V_far6 (Kd.V_mono HL408_5.out (fun k_ hk => (⟨hk, hk.2⟩ : _ ∧ k_ ≠ gb406))) (fun _ hk => hk.2)) (fun _ hk => hk.1.1), by (repeat (with_reducible first | exact HB.out | refine below_set ?_ GE406.out))⟩
       · rw [if_neg c6] at H
         have c6b0 : (((rd_T43 l0 x6_1).f0).toList == a1.toList) = false := beq_eq_false_iff_ne.mpr c6
         have c6b1 : (((rd_T43 l0 x6_1).f0).toList != a1.toList) = true := bne_iff_ne.mpr c6
         have H' := Aside0.mk H
         clear H
         have p407 : 0 ≤ (x6_1 : Int) := of_decide_eq_true (by assumption)
         have q407 : x6_1 < (l0.length : Int) := of_decide_eq_true (by assumption)
         obtain ⟨ad407, A407_5, c407_5, e407, hx407_0, hx407_1, hx407_2, hx407_3, hx407_4, hx407_5, hl407_5, hi407_5⟩ := at_T43 (Kd.V_reads' HO_0.out).2.2 x6_1 p407 q407
         cases e407
         obtain ⟨ce407, hce407, hMe407, hcc407⟩ := Kd.V_get HO_0.out z43 x6_1 p407 (by exact q407)
         obtain ⟨ua407_5, uc407_5, rfl, ul407_5, ge407_5⟩ := k43_openF hMe407
         have hv407_5 := hcc407 5 _ rfl
         rw [add_field _ _ 5 (by omega)] at hv407_5
         replace hv407_5 := Option.some.inj (hv407_5.symm.trans hx407_5)
         injection hv407_5 with hva_ hvn_ hvc_
         rw [hva_] at ge407_5
         rw [hvc_] at ul407_5
         have HL407_5 := Aside0.mk (show Kd.V Kd.string 9 _ w.heap.size _ _ ((rd_T43 l0 x6_1).f5) from Kd.V_mk ul407_5 ge407_5)
         clear hva_ hvn_ hvc_ ge407_5 ul407_5 hcc407 hce407
         have HR407_5 := Aside0.mk hi407_5
         have HC407_5 := Aside0.mk hl407_5
         clear hi407_5 hl407_5
         replace p407 := eq_true p407
         replace q407 := eq_true q407
         go_wp2
         go_roundg k1
         case measure => have := HK1.out; omega
         case rel => exact ⟨(wrap64 (x6_1 + 1)), (x407000_1), (x407001_1), (x407002_1), (x407003_1), (x407004_1), rfl, H', ⟨by have := HK1.out; omega⟩, ⟨HO_0.out⟩, ⟨BK406.out⟩, ⟨HB.out⟩⟩
     · rw [if_neg c5] at H
       exact absurd H (by simp)
   · rw [if_neg c4] at H
     have c4b0 : decide (x6_1 < (l0.length : Int)) = false := decide_eq_false c4
     clear c4
     simp only [Option.some.injEq, Prod.mk.injEq] at H
     obtain ⟨rfl, rfl, rfl, rfl, rfl, rfl, rfl⟩ := H
     obtain ⟨hcz8_0, hcz8_1, hcz8_2, hcz8_3, hcz8_4, hcz8_5, hfz8_0, hfz8_1, hfz8_2, hfz8_3, hfz8_4, hfz8_5⟩ := cz6_ BK406.out
     go_wp2
     refine bodyPost_ret (results_ct rfl _ _ gb406 43 #[.string (⟨#[]⟩ : ByteArray), .string (⟨#[]⟩ : ByteArray), .int .i64 0, .bool false, .string (⟨#[]⟩ : ByteArray), .slice none 0 0] (0, 0) _ rfl (put6_ BK406.out _ _ _ _ _ _) Tryz.underlying43 rfl (by kernel_rfl)) rfl ?_
     exact ⟨_, rfl, Kd.V_nil _ _ _ _ _, by (repeat (with_reducible first | exact HB.out | refine below_set ?_ GE406.out))⟩
end Go.Proofs.YtmimipgmhgalaaaGreatDoor.PAll
end
section
namespace Go.Proofs.YtmimipgmhgalaaaGreatDoor.Pure
open Go.RowKit Go.Proofs.YtmimipgmhgalaaaGreatDoorW.PrintWords Go.Proofs.YtmimipgmhgalaaaGreatDoor.Plain Go.Proofs.YtmimipgmhgalaaaGreatDoor.PAll
set_option linter.unusedSimpArgs false
set_option linter.unusedVariables false
abbrev CC := S40
abbrev CR := S43
def toR (x : CC) : CR := ⟨x.f0, x.f1, x.f2, x.f3, x.f4, x.f5⟩
def SmallC (l : List CC) : Prop := l.length ≤ 1599289640400 ∧ ∀ x ∈ l, x.f5.length ≤ 4000000000000
theorem rdC (l : List CC) (i : Nat) (h : i < l.length) : rd_T40 l (i : Int) = l[i] := by
  unfold rd_T40; rw [Int.toNat_natCast, List.getD_eq_getElem?_getD, List.getElem?_eq_getElem h]; rfl
theorem rdR (l : List CR) (i : Nat) (h : i < l.length) : rd_T43 l (i : Int) = l[i] := by
  unfold rd_T43; rw [Int.toNat_natCast, List.getD_eq_getElem?_getD, List.getElem?_eq_getElem h]; rfl
theorem same_ev (i s : ByteArray) (gr : Int) (pg : Bool) (u : ByteArray) (sc : List ByteArray) (hs : sc.length ≤ 4000000000000) : Ev (fun k => wicketlaw11_same.f k i s gr pg u sc i s gr pg u sc) true := by
  have h : ∀ (m j : Nat), j + m = sc.length → Ev (fun k => wicketlaw11_same.l0 k (j : Int) i s gr pg u sc i s gr pg u sc) true := by
    intro m
    induction m with
    | zero =>
      intro j hj
      refine Ev.step (f := fun _ => some true) (fun k => ?_) (Ev.now _)
      simp only [wicketlaw11_same.l0]; rw [if_neg (by omega)]
    | succ m ih =>
      intro j hj
      have hlt : j < sc.length := by omega
      refine Ev.step (f := fun k => wicketlaw11_same.l0 k ((j + 1 : Nat) : Int) i s gr pg u sc i s gr pg u sc) (fun k => ?_) (ih (j + 1) (by omega))
      simp only [wicketlaw11_same.l0]
      rw [if_pos (by omega), if_pos (by omega), if_pos (by omega), if_true, w64 (by omega) (by omega)]
      rfl
  unfold wicketlaw11_same.f
  simp only [if_true, bne_self_eq_false, if_false, Bool.false_eq_true]
  refine Ev.step (f := fun k => wicketlaw11_same.l0 k (0 : Int) i s gr pg u sc i s gr pg u sc) (fun k => ?_) (h sc.length 0 (by omega))
  simp only [wicketlaw11_same.j0, Bool.false_eq_true, if_false]
theorem list_ev (l : List CC) (hl : SmallC l) : Ev (fun k => wicketlaw11_list.f k l (l.map toR)) true := by
  have h : ∀ (m i : Nat), i + m = l.length → Ev (fun k => wicketlaw11_list.l0 k l (l.map toR) (i : Int)) true := by
    intro m
    induction m with
    | zero =>
      intro i hi
      refine Ev.step (f := fun _ => some true) (fun k => ?_) (Ev.now _)
      simp only [wicketlaw11_list.l0]; rw [if_neg (by omega)]
    | succ m ih =>
      intro i hi
      have hlt : i < l.length := by omega
      have h1 := hl.1
      refine Ev.step (f := fun k => (wicketlaw11_same.f k (l[i]).f0 (l[i]).f1 (l[i]).f2 (l[i]).f3 (l[i]).f4 (l[i]).f5 (l[i]).f0 (l[i]).f1 (l[i]).f2 (l[i]).f3 (l[i]).f4 (l[i]).f5).bind fun t => if t = true then wicketlaw11_list.l0 k l (l.map toR) ((i + 1 : Nat) : Int) else some false) (fun k => ?_) ?_
      · simp only [wicketlaw11_list.l0]
        rw [if_pos (by omega), if_pos (by omega), if_pos (by rw [List.length_map]; omega), rdC _ _ hlt, rdR _ _ (by rw [List.length_map]; omega), List.getElem_map, w64 (by omega) (by omega)]
        rfl
      · exact Ev.bind (same_ev _ _ _ _ _ _ (hl.2 _ (List.getElem_mem hlt))) (Ev.pos rfl (ih (i + 1) (by omega)))
  unfold wicketlaw11_list.f
  exact Ev.pos (by rw [List.length_map]) (h l.length 0 (by omega))
def zeroC : CC := ⟨⟨#[]⟩, ⟨#[]⟩, 0, false, ⟨#[]⟩, []⟩
def foundC (a : ByteArray) : List CC → CC × Bool
  | [] => (zeroC, false)
  | x :: r => if x.f0.toList = a.toList then (x, true) else foundC a r
theorem find_ev (l : List CC) (hl : SmallC l) (a : ByteArray) : Ev (fun k => client_Find.f k l a) ((foundC a l).1.f0, (foundC a l).1.f1, (foundC a l).1.f2, (foundC a l).1.f3, (foundC a l).1.f4, (foundC a l).1.f5, (foundC a l).2) := by
  have h : ∀ (m i : Nat), i + m = l.length → Ev (fun k => client_Find.l0 k a l (l.length : Int) (i : Int)) ((foundC a (l.drop i)).1.f0, (foundC a (l.drop i)).1.f1, (foundC a (l.drop i)).1.f2, (foundC a (l.drop i)).1.f3, (foundC a (l.drop i)).1.f4, (foundC a (l.drop i)).1.f5, (foundC a (l.drop i)).2) := by
    intro m
    induction m with
    | zero =>
      intro i hi
      refine Ev.step (f := fun _ => some _) (fun k => ?_) (Ev.now _)
      simp only [client_Find.l0]; rw [if_neg (by omega), List.drop_eq_nil_of_le (by omega)]; rfl
    | succ m ih =>
      intro i hi
      have hlt : i < l.length := by omega
      have h1 := hl.1
      have h2 := hl.2 _ (List.getElem_mem hlt)
      have e : l.drop i = l[i] :: l.drop (i + 1) := List.drop_eq_getElem_cons hlt
      by_cases hx : (l[i]).f0.toList = a.toList
      · refine Ev.step (f := fun _ => some _) (fun k => ?_) (Ev.now _)
        simp only [client_Find.l0]
        rw [if_pos (by omega), if_pos (by omega), if_pos (by omega), rdC _ _ hlt, if_pos hx, e]
        unfold client_copied.f slices_Clone_string_string.f
        rw [if_pos (by omega)]
        simp only [foundC, if_pos hx]
        rfl
      · have hn := ih (i + 1) (by omega)
        refine Ev.step (f := fun k => client_Find.l0 k a l (l.length : Int) ((i + 1 : Nat) : Int)) (fun k => ?_) ?_
        · simp only [client_Find.l0]
          rw [if_pos (by omega), if_pos (by omega), if_pos (by omega), rdC _ _ hlt, if_neg hx, w64 (by omega) (by omega)]
          rfl
        · rw [e]
          simp only [foundC, if_neg hx]
          exact hn
  exact h l.length 0 (by omega)
theorem rfind_ev (l : List CC) (hl : SmallC l) (a : ByteArray) : Ev (fun k => wicketref11_Find.f k (l.map toR) a) ((foundC a l).1.f0, (foundC a l).1.f1, (foundC a l).1.f2, (foundC a l).1.f3, (foundC a l).1.f4, (foundC a l).1.f5, (foundC a l).2) := by
  have h : ∀ (m i : Nat), i + m = l.length → Ev (fun k => wicketref11_Find.l0 k (l.map toR) a (i : Int)) ((foundC a (l.drop i)).1.f0, (foundC a (l.drop i)).1.f1, (foundC a (l.drop i)).1.f2, (foundC a (l.drop i)).1.f3, (foundC a (l.drop i)).1.f4, (foundC a (l.drop i)).1.f5, (foundC a (l.drop i)).2) := by
    intro m
    induction m with
    | zero =>
      intro i hi
      refine Ev.step (f := fun _ => some _) (fun k => ?_) (Ev.now _)
      simp only [wicketref11_Find.l0]; rw [if_neg (by rw [List.length_map]; omega), List.drop_eq_nil_of_le (by omega)]; rfl
    | succ m ih =>
      intro i hi
      have hlt : i < l.length := by omega
      have h1 := hl.1
      have e : l.drop i = l[i] :: l.drop (i + 1) := List.drop_eq_getElem_cons hlt
      have hr : rd_T43 (l.map toR) (i : Int) = toR l[i] := by rw [rdR _ _ (by rw [List.length_map]; omega), List.getElem_map]
      by_cases hx : (l[i]).f0.toList = a.toList
      · refine Ev.step (f := fun _ => some _) (fun k => ?_) (Ev.now _)
        simp only [wicketref11_Find.l0]
        rw [if_pos (by rw [List.length_map]; omega), if_pos (by omega), hr, if_pos (show (toR l[i]).f0.toList = a.toList from hx), e]
        simp only [foundC, if_pos hx]
        rfl
      · have hn := ih (i + 1) (by omega)
        refine Ev.step (f := fun k => wicketref11_Find.l0 k (l.map toR) a ((i + 1 : Nat) : Int)) (fun k => ?_) ?_
        · simp only [wicketref11_Find.l0]
          rw [if_pos (by rw [List.length_map]; omega), if_pos (by omega), hr, if_neg (show ¬ (toR l[i]).f0.toList = a.toList from hx), w64 (by omega) (by omega)]
          rfl
        · rw [e]
          simp only [foundC, if_neg hx]
          exact hn
  exact h l.length 0 (by omega)
end Go.Proofs.YtmimipgmhgalaaaGreatDoor.Pure
end
