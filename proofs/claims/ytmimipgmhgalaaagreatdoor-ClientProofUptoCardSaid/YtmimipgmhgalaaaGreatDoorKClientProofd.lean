/-
  Part 4 of what the proof of ClientProof leans on: words of the print, walks of functions and plain laws; put together by pack.py, a program of this session.
-/
import Derived.Test.YtmimipgmhgalaaaGreatDoorKClientProofc
section
namespace Go.Proofs.YtmimipgmhgalaaaGreatDoor.PAll
open Go.RowKit Go.Proofs.YtmimipgmhgalaaaGreatDoorW.PrintWords Go.Proofs.YtmimipgmhgalaaaGreatDoorW.PrintLast Go.Proofs.YtmimipgmhgalaaaGreatDoorW.PrintMore
attribute [local go_sem] max2_int min2_int max_two min_two max_three min_three max_four min_four
set_option linter.unusedVariables false
set_option linter.unusedSimpArgs false
def wicketref03_One.l0 : Nat → List (S121) → ByteArray → Int → ByteArray → Int → Option (ByteArray × Bool × Int)
 | 0, _, _, _, _, _ => none
 | k + 1, x0, x1, x7, x8, x9 => if x9 < (x0.length : Int) then (if 0 ≤ x9 then (if ((rd_T121 x0 x9).f0).toList = x1.toList then (wicketref03_One.l0 k x0 x1 (wrap64 (x7 + 1)) ((rd_T121 x0 x9).f1) (wrap64 (x9 + 1))) else (wicketref03_One.l0 k x0 x1 x7 x8 (wrap64 (x9 + 1)))) else (none)) else (if x7 > 1 then (some ((⟨#[]⟩ : ByteArray), false, 34)) else (some (x8, (x8.toList != ([] : List UInt8)), 0)))
def wicketref03_One.f (k : Nat) (l0 : List (S121)) (a1 : ByteArray) : Option (ByteArray × Bool × Int) := wicketref03_One.l0 k l0 a1 0 (⟨#[]⟩ : ByteArray) 0
set_option maxHeartbeats 8000000 in
set_option maxRecDepth 100000 in
theorem wicketref03_One.calls (k : Nat) (A0 : Option Addr) (c0 : Nat) (l0 : List (S121)) (a1 : ByteArray) (r1 : ByteArray) (r2 : Bool) (r3 : Int) (w : World) (hr0 : Kd.C k121 w A0 l0.length l0) (hc0 : l0.length ≤ c0) (h : wicketref03_One.f k l0 a1 = some (r1, r2, r3)) :
 Calls Tryz.prog 39 #[.slice A0 l0.length c0, .string a1] w fun e w' => e = .returned (.tuple #[.string r1, .bool r2, .int .i64 r3]) ∧ Drawn0 w w' := by
 have HR0 := Aside0.mk hr0
 have HC0 := Aside0.mk hc0
 clear hr0 hc0
 have H : (wicketref03_One.l0 k l0 a1 0 (⟨#[]⟩ : ByteArray) 0) = some (r1, r2, r3) := h
 clear h
 have H' := Aside0.mk H
 clear H
 go_enter Tryz.func39, Tryz.ntmps39
 go_wp2
 go_loopg [7, 8, 9] k (fun kq v7 v8 v9 w' => ∃ (x7_1 : Int) (x8_1 : ByteArray) (x9_1 : Int), v7 = .int .i64 x7_1 ∧ v8 = .string x8_1 ∧ v9 = .int .i64 x9_1 ∧ Aside0 (wicketref03_One.l0 kq l0 a1 x7_1 x8_1 x9_1 = some (r1, r2, r3)) ∧ Aside0 (kq ≤ k) ∧ Drawn0 w w')
 case atStart => exact ⟨(0), ((⟨#[]⟩ : ByteArray)), (0), rfl, rfl, rfl, H', ⟨Nat.le_refl _⟩, by repeat (exact Drawn0.refl _)⟩
 case round =>
  clear H'
  obtain ⟨x7_1, x8_1, x9_1, rfl, rfl, rfl, HA, HK1, ⟨m1, rfl⟩⟩ := hrel
  cases gk with
  | zero => exact absurd HA.out (by simp [wicketref03_One.l0])
  | succ k1 =>
   have H := HA.out
   clear HA
   simp only [wicketref03_One.l0] at H
   by_cases c3 : x9_1 < (l0.length : Int)
   · rw [if_pos c3] at H
     have c3b0 : decide (x9_1 < (l0.length : Int)) = true := decide_eq_true c3
     clear c3
     by_cases c4 : 0 ≤ x9_1
     · rw [if_pos c4] at H
       have c4b0 : decide (0 ≤ x9_1) = true := decide_eq_true c4
       clear c4
       by_cases c5 : ((rd_T121 l0 x9_1).f0).toList = a1.toList
       · rw [if_pos c5] at H
         have c5b0 : (((rd_T121 l0 x9_1).f0).toList == a1.toList) = true := beq_iff_eq.mpr c5
         have c5b1 : (((rd_T121 l0 x9_1).f0).toList != a1.toList) = false := bne_eq_false_iff_eq.mpr c5
         clear c5
         have H' := Aside0.mk H
         clear H
         have p257 : 0 ≤ (x9_1 : Int) := of_decide_eq_true (by assumption)
         have q257 : x9_1 < (l0.length : Int) := of_decide_eq_true (by assumption)
         obtain ⟨ad257, e257, hx257_0, hx257_1⟩ := at_T121 HR0.out x9_1 p257 q257
         cases e257
         replace p257 := eq_true p257
         replace q257 := eq_true q257
         have p258 : 0 ≤ (x9_1 : Int) := of_decide_eq_true (by assumption)
         have q258 : x9_1 < (l0.length : Int) := of_decide_eq_true (by assumption)
         obtain ⟨ad258, e258, hx258_0, hx258_1⟩ := at_T121 HR0.out x9_1 p258 q258
         obtain rfl : ad257 = ad258 := (by injection e258)
         replace p258 := eq_true p258
         replace q258 := eq_true q258
         go_wp2
         go_roundg k1
         case measure => have := HK1.out; omega
         case rel => exact ⟨(wrap64 (x7_1 + 1)), ((rd_T121 l0 x9_1).f1), (wrap64 (x9_1 + 1)), rfl, rfl, rfl, H', ⟨by have := HK1.out; omega⟩, by repeat (first | exact Drawn0.refl _ | apply Drawn0.step)⟩
       · rw [if_neg c5] at H
         have c5b0 : (((rd_T121 l0 x9_1).f0).toList == a1.toList) = false := beq_eq_false_iff_ne.mpr c5
         have c5b1 : (((rd_T121 l0 x9_1).f0).toList != a1.toList) = true := bne_iff_ne.mpr c5
         have H' := Aside0.mk H
         clear H
         have p257 : 0 ≤ (x9_1 : Int) := of_decide_eq_true (by assumption)
         have q257 : x9_1 < (l0.length : Int) := of_decide_eq_true (by assumption)
         obtain ⟨ad257, e257, hx257_0, hx257_1⟩ := at_T121 HR0.out x9_1 p257 q257
         cases e257
         replace p257 := eq_true p257
         replace q257 := eq_true q257
         go_wp2
         go_roundg k1
         case measure => have := HK1.out; omega
         case rel => exact ⟨(x7_1), (x8_1), (wrap64 (x9_1 + 1)), rfl, rfl, rfl, H', ⟨by have := HK1.out; omega⟩, by repeat (first | exact Drawn0.refl _ | apply Drawn0.step)⟩
     · rw [if_neg c4] at H
       exact absurd H (by simp)
   · rw [if_neg c3] at H
     have c3b0 : decide (x9_1 < (l0.length : Int)) = false := decide_eq_false c3
     clear c3
     by_cases c6 : x7_1 > 1
     · rw [if_pos c6] at H
       have c6b0 : decide (1 < x7_1) = true := decide_eq_true c6
       clear c6
       simp only [Option.some.injEq, Prod.mk.injEq] at H
       obtain ⟨rfl, rfl, rfl⟩ := H
       go_wp2
       go_ret3
       exact ⟨by (rfl), by repeat (first | exact Drawn0.refl _ | apply Drawn0.step)⟩
     · rw [if_neg c6] at H
       have c6b0 : decide (1 < x7_1) = false := decide_eq_false c6
       clear c6
       simp only [Option.some.injEq, Prod.mk.injEq] at H
       obtain ⟨rfl, rfl, rfl⟩ := H
       go_wp2
       go_ret3
       exact ⟨by (simp; (generalize ByteArray.toList _ = z_); cases z_ <;> rfl), by repeat (first | exact Drawn0.refl _ | apply Drawn0.step)⟩
mutual
def wicketref03_Within.l0 : Nat → List ByteArray → List ByteArray → Int → Option (Bool)
 | 0, _, _, _ => none
 | k + 1, x0, x1, x5 => if x5 < (x0.length : Int) then (wicketref03_Within.l1 k x0 x1 x5 false 0) else (some true)
def wicketref03_Within.l1 : Nat → List ByteArray → List ByteArray → Int → Bool → Int → Option (Bool)
 | 0, _, _, _, _, _ => none
 | k + 1, x0, x1, x5, x6, x7 => if x7 < (x1.length : Int) then (if x6 = true then (wicketref03_Within.l1 k x0 x1 x5 true (wrap64 (x7 + 1))) else (if 0 ≤ x7 then (if 0 ≤ x5 then (if x5 < (x0.length : Int) then (wicketref03_Within.l1 k x0 x1 x5 ((rdOf ByteArray.empty x1 x7).toList == (rdOf ByteArray.empty x0 x5).toList) (wrap64 (x7 + 1))) else (none)) else (none)) else (none))) else (if x6 = true then (wicketref03_Within.l0 k x0 x1 (wrap64 (x5 + 1))) else (some false))
end
def wicketlaw11_num.f (a0 : Int) : Option (Int) := some a0
end Go.Proofs.YtmimipgmhgalaaaGreatDoor.PAll
end
section
namespace Go.Proofs.YtmimipgmhgalaaaGreatDoor.PAll
open Go.RowKit Go.Proofs.YtmimipgmhgalaaaGreatDoorW.PrintWords Go.Proofs.YtmimipgmhgalaaaGreatDoorW.PrintLast Go.Proofs.YtmimipgmhgalaaaGreatDoorW.PrintMore
attribute [local go_sem] max2_int min2_int max_two min_two max_three min_three max_four min_four
set_option linter.unusedVariables false
set_option linter.unusedSimpArgs false
def wicketref11_Find.l0 : Nat → List (S43) → ByteArray → Int → Option (ByteArray × ByteArray × Int × Bool × ByteArray × List ByteArray × Bool)
 | 0, _, _, _ => none
 | k + 1, x0, x1, x6 => if x6 < (x0.length : Int) then (if 0 ≤ x6 then (if ((rd_T43 x0 x6).f0).toList = x1.toList then (some ((rd_T43 x0 x6).f0, (rd_T43 x0 x6).f1, (rd_T43 x0 x6).f2, (rd_T43 x0 x6).f3, (rd_T43 x0 x6).f4, (rd_T43 x0 x6).f5, true)) else (wicketref11_Find.l0 k x0 x1 (wrap64 (x6 + 1)))) else (none)) else (some ((⟨#[]⟩ : ByteArray), (⟨#[]⟩ : ByteArray), 0, false, (⟨#[]⟩ : ByteArray), ([] : List ByteArray), false))
def wicketref11_Find.f (k : Nat) (l0 : List (S43)) (a1 : ByteArray) : Option (ByteArray × ByteArray × Int × Bool × ByteArray × List ByteArray × Bool) := wicketref11_Find.l0 k l0 a1 0
set_option maxHeartbeats 8000000 in
set_option maxRecDepth 100000 in
theorem wicketref11_Find.calls (k : Nat) (P0_ : Nat → Prop) (A0 : Option Addr) (c0 : Nat) (l0 : List (S43)) (a1 : ByteArray) (r1 : ByteArray) (r2 : ByteArray) (r3 : Int) (r4 : Bool) (r5 : ByteArray) (r6 : List ByteArray) (r7 : Bool) (w : World) (hs0 : Kd.V k43 43 w w.heap.size (fun k_ => P0_ k_) (.slice A0 l0.length c0) l0) (h : wicketref11_Find.f k l0 a1 = some (r1, r2, r3, r4, r5, r6, r7)) :
 Calls Tryz.prog 30 #[.slice A0 l0.length c0, .string a1] w fun e w' => ∃ v5_ : Value, e = .returned (.tuple #[.agg #[.string r1, .string r2, .int .i64 r3, .bool r4, .string r5, v5_], .bool r7]) ∧ Kd.V Kd.string 9 w' w.heap.size (fun k_ => (P0_ k_ ∨ w.heap.size ≤ k_)) v5_ r6 ∧ Below w.heap.size w w' := by
 have hu43 := Tryz.underlying43
 have HO0 := Aside0.mk (show Kd.V k43 43 w w.heap.size (fun k_ => (P0_ k_ ∨ w.heap.size ≤ k_)) (.slice A0 l0.length c0) l0 from Kd.V_mono hs0 (fun k_ hk => .inl hk))
 have HB := Aside0.mk (Below.refl w.heap.size w)
 have H : (wicketref11_Find.l0 k l0 a1 0) = some (r1, r2, r3, r4, r5, r6, r7) := h
 clear h
 have H' := Aside0.mk H
 clear H
 go_enter Tryz.func30, Tryz.ntmps30
 go_wp2_with (first | ((with_reducible refine gate_dst (N := 4) rfl ?_); refine box_event ?hg (N := 4) ?hd (cs := #[.string (⟨#[]⟩ : ByteArray), .string (⟨#[]⟩ : ByteArray), .int .i64 0, .bool false, .string (⟨#[]⟩ : ByteArray), .slice none 0 0]) (t := 43) ?hr ?_; (case hd => rfl); (case hg => rfl); (case hr => (go_simp; done)); intro gb406 hg w3 hbox hb; replace HO0 := Aside0.mk (Kd.V_below (Kd.V_elderB HO0.out gb406 (Nat.le_of_eq hg.symm)) hb); have BK406 := Aside0.mk hbox; have GW406 := Aside0.mk ((by rw [hg]; exact (below_size HB.out) : w.heap.size ≤ gb406)); have GE406 := Aside0.mk ((by rw [hg]; exact (below_size HB.out) : w.heap.size ≤ gb406)); replace HB := Aside0.mk (below_step HB.out hb); clear hb hbox hg))
 go_loopg [6] k (fun kq v6 w' => ∃ (x6_1 : Int) (x407000_1 : ByteArray) (x407001_1 : ByteArray) (x407002_1 : Int) (x407003_1 : Bool) (x407004_1 : ByteArray), v6 = .int .i64 x6_1 ∧ Aside0 (wicketref11_Find.l0 kq l0 a1 x6_1 = some (r1, r2, r3, r4, r5, r6, r7)) ∧ Aside0 (kq ≤ k) ∧ Aside0 (Kd.V k43 43 w' w.heap.size (fun k_ => (P0_ k_ ∨ w.heap.size ≤ k_) ∧ k_ ≠ gb406) (.slice A0 l0.length c0) l0) ∧ Aside0 (w'.heap[gb406]? = some (.cells #[.string x407000_1, .string x407001_1, .int .i64 x407002_1, .bool x407003_1, .string x407004_1, (.slice none 0 0)] 43 (0, 0))) ∧ Aside0 (Below w.heap.size w w'))
 case atStart => exact ⟨(0), ((⟨#[]⟩ : ByteArray)), ((⟨#[]⟩ : ByteArray)), (0), (false), ((⟨#[]⟩ : ByteArray)), rfl, H', ⟨Nat.le_refl _⟩, ⟨HO0.out⟩, ⟨BK406.out⟩, ⟨HB.out⟩⟩
 case round =>
  clear H'
  obtain ⟨x6_1, x407000_1, x407001_1, x407002_1, x407003_1, x407004_1, rfl, HA, HK1, HO_0, BK406, HB⟩ := hrel
  cases gk with
  | zero => exact absurd HA.out (by simp [wicketref11_Find.l0])
  | succ k1 =>
   have H := HA.out
   clear HA
   simp only [wicketref11_Find.l0] at H
   by_cases c4 : x6_1 < (l0.length : Int)
   · rw [if_pos c4] at H
     have c4b0 : decide (x6_1 < (l0.length : Int)) = true := decide_eq_true c4
     clear c4
     by_cases c5 : 0 ≤ x6_1
     · rw [if_pos c5] at H
       have c5b0 : decide (0 ≤ x6_1) = true := decide_eq_true c5
       clear c5
       by_cases c6 : ((rd_T43 l0 x6_1).f0).toList = a1.toList
       · rw [if_pos c6] at H
         have c6b0 : (((rd_T43 l0 x6_1).f0).toList == a1.toList) = true := beq_iff_eq.mpr c6
         have c6b1 : (((rd_T43 l0 x6_1).f0).toList != a1.toList) = false := bne_eq_false_iff_eq.mpr c6
         clear c6
         simp only [Option.some.injEq, Prod.mk.injEq] at H
         obtain ⟨rfl, rfl, rfl, rfl, rfl, rfl, rfl⟩ := H
         have p407 : 0 ≤ (x6_1 : Int) := of_decide_eq_true (by assumption)
         have q407 : x6_1 < (l0.length : Int) := of_decide_eq_true (by assumption)
         obtain ⟨ad407, A407_5, c407_5, e407, hx407_0, hx407_1, hx407_2, hx407_3, hx407_4, hx407_5, hl407_5, hi407_5⟩ := at_T43 (Kd.V_reads' HO_0.out).2.2 x6_1 p407 q407
         cases e407
         obtain ⟨ce407, hce407, hMe407, hcc407⟩ := Kd.V_get HO_0.out z43 x6_1 p407 (by exact q407)
         obtain ⟨ua407_5, uc407_5, rfl, ul407_5, ge407_5⟩ := k43_openF hMe407
         have hv407_5 := hcc407 5 _ rfl
         rw [add_field _ _ 5 (by omega)] at hv407_5
         replace hv407_5 := Option.some.inj (hv407_5.symm.trans hx407_5)
         injection hv407_5 with hva_ hvn_ hvc_
         rw [hva_] at ge407_5
         rw [hvc_] at ul407_5
         have HL407_5 := Aside0.mk (show Kd.V Kd.string 9 _ w.heap.size _ _ ((rd_T43 l0 x6_1).f5) from Kd.V_mk ul407_5 ge407_5)
         clear hva_ hvn_ hvc_ ge407_5 ul407_5 hcc407 hce407
         have HR407_5 := Aside0.mk hi407_5
         have HC407_5 := Aside0.mk hl407_5
         clear hi407_5 hl407_5
         replace p407 := eq_true p407
         replace q407 := eq_true q407
         have p408 : 0 ≤ (x6_1 : Int) := of_decide_eq_true (by assumption)
         have q408 : x6_1 < (l0.length : Int) := of_decide_eq_true (by assumption)
         obtain ⟨ad408, A408_5, c408_5, e408, hx408_0, hx408_1, hx408_2, hx408_3, hx408_4, hx408_5, hl408_5, hi408_5⟩ := at_T43 (Kd.V_reads' HO_0.out).2.2 x6_1 p408 q408
         obtain rfl : ad407 = ad408 := (by injection e408)
         obtain ⟨ce408, hce408, hMe408, hcc408⟩ := Kd.V_get HO_0.out z43 x6_1 p408 (by exact q408)
         obtain ⟨ua408_5, uc408_5, rfl, ul408_5, ge408_5⟩ := k43_openF hMe408
         have hv408_5 := hcc408 5 _ rfl
         rw [add_field _ _ 5 (by omega)] at hv408_5
         replace hv408_5 := Option.some.inj (hv408_5.symm.trans hx408_5)
         injection hv408_5 with hva_ hvn_ hvc_
         rw [hva_] at ge408_5
         rw [hvc_] at ul408_5
         have HL408_5 := Aside0.mk (show Kd.V Kd.string 9 _ w.heap.size _ _ ((rd_T43 l0 x6_1).f5) from Kd.V_mk ul408_5 ge408_5)
         clear hva_ hvn_ hvc_ ge408_5 ul408_5 hcc408 hce408
         have HR408_5 := Aside0.mk hi408_5
         have HC408_5 := Aside0.mk hl408_5
         clear hi408_5 hl408_5
         replace p408 := eq_true p408
         replace q408 := eq_true q408
         have ea_ := Option.some.inj (hx407_5.symm.trans hx408_5)
         injection ea_ with ea_ en_ ec_
         subst ea_
         subst ec_
         clear en_
         obtain ⟨hcz7_0, hcz7_1, hcz7_2, hcz7_3, hcz7_4, hcz7_5, hfz7_0, hfz7_1, hfz7_2, hfz7_3, hfz7_4, hfz7_5⟩ := cz6_ BK406.out
         go_wp2
         refine bodyPost_ret (results_ct rfl _ _ gb406 43 #[.string ((rd_T43 l0 x6_1).f0), .string ((rd_T43 l0 x6_1).f1), .int .i64 ((rd_T43 l0 x6_1).f2), .bool ((rd_T43 l0 x6_1).f3), .string ((rd_T43 l0 x6_1).f4), .slice A407_5 ((rd_T43 l0 x6_1).f5).length c407_5] (0, 0) _ rfl (put6_ BK406.out _ _ _ _ _ _) Tryz.underlying43 rfl (by kernel_rfl)) rfl ?_
         exact ⟨_, rfl, by (with_reducible repeat (first | apply Kd.V_alloc  | apply Kd.V_drewN  | apply Kd.V_drew)); exact Kd.V_mono (V_far6 (Kd.V_mono HL408_5.out (fun k_ hk => (⟨hk, hk.2⟩ : _ ∧ k_ ≠ gb406))) (fun _ hk => hk.2)) (fun _ hk => hk.1.1), by (repeat (with_reducible first | exact HB.out | refine below_set ?_ GE406.out))⟩
       · rw [if_neg c6] at H
         have c6b0 : (((rd_T43 l0 x6_1).f0).toList == a1.toList) = false := beq_eq_false_iff_ne.mpr c6
         have c6b1 : (((rd_T43 l0 x6_1).f0).toList != a1.toList) = true := bne_iff_ne.mpr c6
         have H' := Aside0.mk H
         clear H
         have p407 : 0 ≤ (x6_1 : Int) := of_decide_eq_true (by assumption)
         have q407 : x6_1 < (l0.length : Int) := of_decide_eq_true (by assumption)
         obtain ⟨ad407, A407_5, c407_5, e407, hx407_0, hx407_1, hx407_2, hx407_3, hx407_4, hx407_5, hl407_5, hi407_5⟩ := at_T43 (Kd.V_reads' HO_0.out).2.2 x6_1 p407 q407
         cases e407
         obtain ⟨ce407, hce407, hMe407, hcc407⟩ := Kd.V_get HO_0.out z43 x6_1 p407 (by exact q407)
         obtain ⟨ua407_5, uc407_5, rfl, ul407_5, ge407_5⟩ := k43_openF hMe407
         have hv407_5 := hcc407 5 _ rfl
         rw [add_field _ _ 5 (by omega)] at hv407_5
         replace hv407_5 := Option.some.inj (hv407_5.symm.trans hx407_5)
         injection hv407_5 with hva_ hvn_ hvc_
         rw [hva_] at ge407_5
         rw [hvc_] at ul407_5
         have HL407_5 := Aside0.mk (show Kd.V Kd.string 9 _ w.heap.size _ _ ((rd_T43 l0 x6_1).f5) from Kd.V_mk ul407_5 ge407_5)
         clear hva_ hvn_ hvc_ ge407_5 ul407_5 hcc407 hce407
         have HR407_5 := Aside0.mk hi407_5
         have HC407_5 := Aside0.mk hl407_5
         clear hi407_5 hl407_5
         replace p407 := eq_true p407
         replace q407 := eq_true q407
         go_wp2
         go_roundg k1
         case measure => have := HK1.out; omega
         case rel => exact ⟨(wrap64 (x6_1 + 1)), (x407000_1), (x407001_1), (x407002_1), (x407003_1), (x407004_1), rfl, H', ⟨by have := HK1.out; omega⟩, ⟨HO_0.out⟩, ⟨BK406.out⟩, ⟨HB.out⟩⟩
     · rw [if_neg c5] at H
       exact absurd H (by simp)
   · rw [if_neg c4] at H
     have c4b0 : decide (x6_1 < (l0.length : Int)) = false := decide_eq_false c4
     clear c4
     simp only [Option.some.injEq, Prod.mk.injEq] at H
     obtain ⟨rfl, rfl, rfl, rfl, rfl, rfl, rfl⟩ := H
     obtain ⟨hcz8_0, hcz8_1, hcz8_2, hcz8_3, hcz8_4, hcz8_5, hfz8_0, hfz8_1, hfz8_2, hfz8_3, hfz8_4, hfz8_5⟩ := cz6_ BK406.out
     go_wp2
     refine bodyPost_ret (results_ct rfl _ _ gb406 43 #[.string (⟨#[]⟩ : ByteArray), .string (⟨#[]⟩ : ByteArray), .int .i64 0, .bool false, .string (⟨#[]⟩ : ByteArray), .slice none 0 0] (0, 0) _ rfl (put6_ BK406.out _ _ _ _ _ _) Tryz.underlying43 rfl (by kernel_rfl)) rfl ?_
     exact ⟨_, rfl, Kd.V_nil _ _ _ _ _, by (repeat (with_reducible first | exact HB.out | refine below_set ?_ GE406.out))⟩
end Go.Proofs.YtmimipgmhgalaaaGreatDoor.PAll
end
section
namespace Go.Proofs.YtmimipgmhgalaaaGreatDoor.PAll
open Go.RowKit Go.Proofs.YtmimipgmhgalaaaGreatDoorW.PrintWords Go.Proofs.YtmimipgmhgalaaaGreatDoorW.PrintLast Go.Proofs.YtmimipgmhgalaaaGreatDoorW.PrintMore
attribute [local go_sem] max2_int min2_int max_two min_two max_three min_three max_four min_four
set_option linter.unusedVariables false
set_option linter.unusedSimpArgs false
mutual
def wicketref03_digit.j0 : Nat → Int → Bool → Option (Int)
 | 0, _, _ => none
 | k + 1, x0, x3 => if x3 = true then (some ((x0 - 48) % 256)) else (if x0 ≥ 97 then (wicketref03_digit.j1 k x0 (decide (x0 ≤ 102))) else (wicketref03_digit.j1 k x0 false))
def wicketref03_digit.j1 : Nat → Int → Bool → Option (Int)
 | 0, _, _ => none
 | k + 1, x0, x13 => if x13 = true then (some (((x0 - 97) % 256) + 10)) else (if x0 ≥ 65 then (if x0 ≤ 70 then (some (((x0 - 65) % 256) + 10)) else (some (-1))) else (some (-1)))
end
def wicketref03_digit.f (k : Nat) (a0 : Int) : Option (Int) := if a0 ≥ 48 then (wicketref03_digit.j0 k a0 (decide (a0 ≤ 57))) else (wicketref03_digit.j0 k a0 false)
set_option maxHeartbeats 8000000 in
set_option maxRecDepth 100000 in
theorem wicketref03_digit.calls (k : Nat) (a0 : Int) (r : Int) (w : World) (h : wicketref03_digit.f k a0 = some r) :
 Calls Tryz.prog 108 #[.int .u8 a0] w fun e w' => e = .returned (.int .i64 r) ∧ Drawn0 w w' := by
 have H : (if a0 ≥ 48 then (wicketref03_digit.j0 k a0 (decide (a0 ≤ 57))) else (wicketref03_digit.j0 k a0 false)) = some r := h
 clear h
 have HC2 := Aside0.mk H
 clear H
 go_enter Tryz.func108, Tryz.ntmps108
 go_upto_region 1 with (fail)
 go_cut [3] (fun v3 wc => ∃ (kq : Nat) (x3_1 : Bool), v3 = .bool x3_1 ∧ Aside0 (wicketref03_digit.j0 kq a0 x3_1 = some r) ∧ Aside0 (kq ≤ k) ∧ Drawn0 w wc)
 case first =>
  have H := HC2.out
  clear HC2
  by_cases c3 : a0 ≥ 48
  · rw [if_pos c3] at H
    have c3b0 : decide (48 ≤ a0) = true := decide_eq_true c3
    clear c3
    have H' := Aside0.mk H
    clear H
    go_wp2
    go_meet
    case rel => exact ⟨_, (decide (a0 ≤ 57)), rfl, H', ⟨by (omega)⟩, by repeat (exact Drawn0.refl _)⟩
  · rw [if_neg c3] at H
    have c3b0 : decide (48 ≤ a0) = false := decide_eq_false c3
    clear c3
    have H' := Aside0.mk H
    clear H
    go_wp2
    go_meet
    case rel => exact ⟨_, (false), rfl, H', ⟨by (omega)⟩, by repeat (exact Drawn0.refl _)⟩
 case rest =>
  clear HC2
  obtain ⟨kq, x3_1, rfl, HA, HJ1, ⟨mc1, rfl⟩⟩ := hcut
  cases kq with
  | zero => exact absurd HA.out (by simp [wicketref03_digit.j0])
  | succ kj1 =>
   have H := HA.out
   clear HA
   simp only [wicketref03_digit.j0] at H
   by_cases c4 : x3_1 = true
   · subst c4
     have H1 : (some ((a0 - 48) % 256)) = some r := by rw [if_pos rfl] at H; exact H
     clear H
     have H := H1
     clear H1
     obtain rfl := Option.some.inj H
     go_wp2
     go_ret
     exact ⟨by (rfl), by repeat (first | exact Drawn0.refl _ | apply Drawn0.step)⟩
   · replace c4 := Bool.eq_false_iff.mpr c4
     subst c4
     have H1 : (if a0 ≥ 97 then (wicketref03_digit.j1 kj1 a0 (decide (a0 ≤ 102))) else (wicketref03_digit.j1 kj1 a0 false)) = some r := by rw [if_neg (show ¬ (false = true) by decide)] at H; exact H
     clear H
     have H := H1
     clear H1
     have HC5 := Aside0.mk H
     clear H
     go_upto_region 3 with (fail)
     go_cut [13] (fun v13 wc => ∃ (kq : Nat) (x13_4 : Bool), v13 = .bool x13_4 ∧ Aside0 (wicketref03_digit.j1 kq a0 x13_4 = some r) ∧ Aside0 (kq ≤ kj1) ∧ Drawn0 w wc)
     case first =>
      have H := HC5.out
      clear HC5
      by_cases c6 : a0 ≥ 97
      · rw [if_pos c6] at H
        have c6b0 : decide (97 ≤ a0) = true := decide_eq_true c6
        clear c6
        have H' := Aside0.mk H
        clear H
        go_wp2
        go_meet
        case rel => exact ⟨_, (decide (a0 ≤ 102)), rfl, H', ⟨by have := HJ1.out; (omega)⟩, by repeat (first | exact Drawn0.refl _ | apply Drawn0.step)⟩
      · rw [if_neg c6] at H
        have c6b0 : decide (97 ≤ a0) = false := decide_eq_false c6
        clear c6
        have H' := Aside0.mk H
        clear H
        go_wp2
        go_meet
        case rel => exact ⟨_, (false), rfl, H', ⟨by have := HJ1.out; (omega)⟩, by repeat (first | exact Drawn0.refl _ | apply Drawn0.step)⟩
     case rest =>
      clear HC5
      obtain ⟨kq, x13_4, rfl, HA, HJ4, ⟨mc4, rfl⟩⟩ := hcut
      cases kq with
      | zero => exact absurd HA.out (by simp [wicketref03_digit.j1])
      | succ kj4 =>
       have H := HA.out
       clear HA
       simp only [wicketref03_digit.j1] at H
       by_cases c7 : x13_4 = true
       · subst c7
         have H1 : (some (((a0 - 97) % 256) + 10)) = some r := by rw [if_pos rfl] at H; exact H
         clear H
         have H := H1
         clear H1
         obtain rfl := Option.some.inj H
         go_wp2
         go_ret
         exact ⟨by (rfl), by repeat (first | exact Drawn0.refl _ | apply Drawn0.step)⟩
       · replace c7 := Bool.eq_false_iff.mpr c7
         subst c7
         have H1 : (if a0 ≥ 65 then (if a0 ≤ 70 then (some (((a0 - 65) % 256) + 10)) else (some (-1))) else (some (-1))) = some r := by rw [if_neg (show ¬ (false = true) by decide)] at H; exact H
         clear H
         have H := H1
         clear H1
         by_cases c8 : a0 ≥ 65
         · rw [if_pos c8] at H
           have c8b0 : decide (65 ≤ a0) = true := decide_eq_true c8
           clear c8
           by_cases c9 : a0 ≤ 70
           · rw [if_pos c9] at H
             have c9b0 : decide (a0 ≤ 70) = true := decide_eq_true c9
             clear c9
             obtain rfl := Option.some.inj H
             go_wp2
             go_ret
             exact ⟨by (rfl), by repeat (first | exact Drawn0.refl _ | apply Drawn0.step)⟩
           · rw [if_neg c9] at H
             have c9b0 : decide (a0 ≤ 70) = false := decide_eq_false c9
             clear c9
             obtain rfl := Option.some.inj H
             go_wp2
             go_ret
             exact ⟨by (rfl), by repeat (first | exact Drawn0.refl _ | apply Drawn0.step)⟩
         · rw [if_neg c8] at H
           have c8b0 : decide (65 ≤ a0) = false := decide_eq_false c8
           clear c8
           obtain rfl := Option.some.inj H
           go_wp2
           go_ret
           exact ⟨by (rfl), by repeat (first | exact Drawn0.refl _ | apply Drawn0.step)⟩
end Go.Proofs.YtmimipgmhgalaaaGreatDoor.PAll
end
section
namespace Go.Proofs.YtmimipgmhgalaaaGreatDoor.PAll
open Go.RowKit Go.Proofs.YtmimipgmhgalaaaGreatDoorW.PrintWords Go.Proofs.YtmimipgmhgalaaaGreatDoorW.PrintLast Go.Proofs.YtmimipgmhgalaaaGreatDoorW.PrintMore
attribute [local go_sem] max2_int min2_int max_two min_two max_three min_three max_four min_four
set_option linter.unusedVariables false
set_option linter.unusedSimpArgs false
mutual
def wicketref03_Unescape.l0 : Nat → ByteArray → List Int → Int → Option (ByteArray × Int × Int)
 | 0, _, _, _ => none
 | k + 1, x0, x5, x6 => if x6 < (x0.size : Int) then (if 0 ≤ x6 then (if (bt x0 x6) < 33 then (wicketref03_Unescape.j1 k x0 x5 x6 (bt x0 x6) true) else (wicketref03_Unescape.j1 k x0 x5 x6 (bt x0 x6) (decide ((bt x0 x6) > 126)))) else (none)) else (some (strOfNums x5, 0, 0))
def wicketref03_Unescape.j1 : Nat → ByteArray → List Int → Int → Int → Bool → Option (ByteArray × Int × Int)
 | 0, _, _, _, _, _ => none
 | k + 1, x0, x5, x6, x7, x22 => if x22 = true then (some ((⟨#[]⟩ : ByteArray), 31, x6)) else (if x7 = 43 then (if x5.length < 140737488355328 then (wicketref03_Unescape.l0 k x0 (x5 ++ [32]) (wrap64 (x6 + 1))) else (none)) else (if x7 = 37 then (if (wrap64 (x6 + 2)) ≥ (x0.size : Int) then (wicketref03_Unescape.j2 k x0 x5 x6 true) else (if 0 ≤ (wrap64 (x6 + 1)) then (if (wrap64 (x6 + 1)) < (x0.size : Int) then ((wicketref03_digit.f k (bt x0 (wrap64 (x6 + 1)))).bind fun t376 => (if t376 < 0 then (wicketref03_Unescape.j2 k x0 x5 x6 true) else (if 0 ≤ (wrap64 (x6 + 2)) then (if (wrap64 (x6 + 2)) < (x0.size : Int) then ((wicketref03_digit.f k (bt x0 (wrap64 (x6 + 2)))).bind fun t377 => (wicketref03_Unescape.j2 k x0 x5 x6 (decide (t377 < 0)))) else (none)) else (none)))) else (none)) else (none))) else (if x5.length < 140737488355328 then (wicketref03_Unescape.l0 k x0 (x5 ++ [x7]) (wrap64 (x6 + 1))) else (none))))
def wicketref03_Unescape.j2 : Nat → ByteArray → List Int → Int → Bool → Option (ByteArray × Int × Int)
 | 0, _, _, _, _ => none
 | k + 1, x0, x5, x6, x56 => if x56 = true then (some ((⟨#[]⟩ : ByteArray), 30, x6)) else (if 0 ≤ (wrap64 (x6 + 1)) then (if (wrap64 (x6 + 1)) < (x0.size : Int) then ((wicketref03_digit.f k (bt x0 (wrap64 (x6 + 1)))).bind fun t378 => (if 0 ≤ (wrap64 (x6 + 2)) then (if (wrap64 (x6 + 2)) < (x0.size : Int) then ((wicketref03_digit.f k (bt x0 (wrap64 (x6 + 2)))).bind fun t379 => (if x5.length < 140737488355328 then (wicketref03_Unescape.l0 k x0 (x5 ++ [(wrap64 ((wrap64 (16 * t378)) + t379)) % 256]) (wrap64 ((wrap64 (x6 + 2)) + 1))) else (none))) else (none)) else (none))) else (none)) else (none))
end
def wicketref03_Unescape.f (k : Nat) (a0 : ByteArray) : Option (ByteArray × Int × Int) := wicketref03_Unescape.l0 k a0 ([] : List Int) 0
def wicketref03_Unescape.T15 : Bool × List (List Nat × List Nat) := (true, [([], []), ([], []), ([], []), ([2], [2]), ([1, 3], [1, 3]), ([4], [4]), ([5], [5]), ([], []), ([], []), ([8], [8]), ([7, 9], [7, 9]), ([10, 5], [10]), ([6, 11], [6, 11]), ([12], [12]), ([13], [13]), ([0, 14, 11], [0, 14]), ([15, 15, 0, 1, 2, 3, 4, 5, 6, 7, 8, 9, 10, 11, 12, 13, 14, 15], [0, 15])])
def wicketref03_Unescape.B15 : List Nat := [0, 0, 0, 4, 14, 30, 62, 0, 0, 256, 896, 1982, 4094, 8190, 16382, 32767, 65535]
theorem wicketref03_Unescape.tab15 : rtab .any (opsOf Tryz.f68 15) = wicketref03_Unescape.T15 := by kernel_rfl
theorem wicketref03_Unescape.bits15 : waitsOk wicketref03_Unescape.T15.2 wicketref03_Unescape.B15 = true := by kernel_rfl
set_option maxHeartbeats 8000000 in
set_option maxRecDepth 100000 in
theorem wicketref03_Unescape.calls (k : Nat) (a0 : ByteArray) (r1 : ByteArray) (r2 : Int) (r3 : Int) (w : World) (h : wicketref03_Unescape.f k a0 = some (r1, r2, r3)) :
 Calls Tryz.prog 68 #[.string a0] w fun e w' => e = .returned (.tuple #[.string r1, .int .i64 r2, .int .i64 r3]) ∧ Below w.heap.size w w' := by
 have HB := Aside0.mk (Below.refl w.heap.size w)
 have H : (wicketref03_Unescape.l0 k a0 ([] : List Int) 0) = some (r1, r2, r3) := h
 clear h
 have H' := Aside0.mk H
 clear H
 go_enter Tryz.func68, Tryz.ntmps68
 go_wp2
 go_loopg [5, 6] k (fun kq v5 v6 w' => ∃ (x5_1 : List Int) (x6_1 : Int), v6 = .int .i64 x6_1 ∧ Aside0 (wicketref03_Unescape.l0 kq a0 x5_1 x6_1 = some (r1, r2, r3)) ∧ Aside0 (kq ≤ k) ∧ Aside0 (Kd.R (Kd.int .u8) 5 w' w.heap.size (fun _ => True) v5 x5_1) ∧ Aside0 (Below w.heap.size w w'))
 case atStart => exact ⟨(([] : List Int)), (0), rfl, H', ⟨Nat.le_refl _⟩, ⟨by (exact Kd.R_nil _ _ _ _ _)⟩, ⟨HB.out⟩⟩
 case round =>
  clear H'
  obtain ⟨x5_1, x6_1, rfl, HA, HK1, HO_5, HB⟩ := hrel
  cases gk with
  | zero => exact absurd HA.out (by simp [wicketref03_Unescape.l0])
  | succ k1 =>
   have H := HA.out
   clear HA
   simp only [wicketref03_Unescape.l0] at H
   by_cases c2 : x6_1 < (a0.size : Int)
   · rw [if_pos c2] at H
     have c2b0 : decide (x6_1 < (a0.size : Int)) = true := decide_eq_true c2
     clear c2
     by_cases c3 : 0 ≤ x6_1
     · rw [if_pos c3] at H
       have c3b0 : decide (0 ≤ x6_1) = true := decide_eq_true c3
       clear c3
       have HC5 := Aside0.mk H
       clear H
       have p4 : 0 ≤ (x6_1 : Int) := of_decide_eq_true (by assumption)
       have q4 : x6_1 < (a0.size : Int) := of_decide_eq_true (by assumption)
       have hx4 := bt_at a0 x6_1
       replace p4 := eq_true p4
       replace q4 := eq_true q4
       go_upto_region 6 with (fail)
       go_cut [22] (fun v22 wc => ∃ (kq : Nat) (x22_4 : Bool), v22 = .bool x22_4 ∧ Aside0 (wicketref03_Unescape.j1 kq a0 x5_1 x6_1 (bt a0 x6_1) x22_4 = some (r1, r2, r3)) ∧ Aside0 (kq ≤ k1) ∧ Aside0 (Kd.R (Kd.int .u8) 5 wc w.heap.size (fun _ => True) u5 x5_1) ∧ Aside0 (Below w.heap.size w wc))
       case first =>
        have H := HC5.out
        clear HC5
        by_cases c6 : (bt a0 x6_1) < 33
        · rw [if_pos c6] at H
          have c6b0 : decide ((bt a0 x6_1) < 33) = true := decide_eq_true c6
          clear c6
          have H' := Aside0.mk H
          clear H
          go_wp2
          go_meet
          case rel => exact ⟨_, (true), rfl, H', ⟨by have := HK1.out; (omega)⟩, ⟨HO_5.out⟩, ⟨HB.out⟩⟩
        · rw [if_neg c6] at H
          have c6b0 : decide ((bt a0 x6_1) < 33) = false := decide_eq_false c6
          clear c6
          have H' := Aside0.mk H
          clear H
          go_wp2
          go_meet
          case rel => exact ⟨_, (decide ((bt a0 x6_1) > 126)), rfl, H', ⟨by have := HK1.out; (omega)⟩, ⟨HO_5.out⟩, ⟨HB.out⟩⟩
       case rest =>
        clear HC5 c2b0 c3b0 p4 q4 hx4
        obtain ⟨kq, x22_4, rfl, HA, HJ4, HO_5, HB⟩ := hcut
        cases kq with
        | zero => exact absurd HA.out (by simp [wicketref03_Unescape.j1])
        | succ kj4 =>
         have H := HA.out
         clear HA
         simp only [wicketref03_Unescape.j1] at H
         by_cases c7 : x22_4 = true
         · subst c7
           have H1 : (some ((⟨#[]⟩ : ByteArray), 31, x6_1)) = some (r1, r2, r3) := by rw [if_pos rfl] at H; exact H
           clear H
           have H := H1
           clear H1
           simp only [Option.some.injEq, Prod.mk.injEq] at H
           obtain ⟨rfl, rfl, rfl⟩ := H
           go_wp2
           go_ret3
           exact ⟨by (rfl), by (with_reducible exact HB.out)⟩
         · replace c7 := Bool.eq_false_iff.mpr c7
           subst c7
           have H1 : (if (bt a0 x6_1) = 43 then (if x5_1.length < 140737488355328 then (wicketref03_Unescape.l0 kj4 a0 (x5_1 ++ [32]) (wrap64 (x6_1 + 1))) else (none)) else (if (bt a0 x6_1) = 37 then (if (wrap64 (x6_1 + 2)) ≥ (a0.size : Int) then (wicketref03_Unescape.j2 kj4 a0 x5_1 x6_1 true) else (if 0 ≤ (wrap64 (x6_1 + 1)) then (if (wrap64 (x6_1 + 1)) < (a0.size : Int) then ((wicketref03_digit.f kj4 (bt a0 (wrap64 (x6_1 + 1)))).bind fun t376 => (if t376 < 0 then (wicketref03_Unescape.j2 kj4 a0 x5_1 x6_1 true) else (if 0 ≤ (wrap64 (x6_1 + 2)) then (if (wrap64 (x6_1 + 2)) < (a0.size : Int) then ((wicketref03_digit.f kj4 (bt a0 (wrap64 (x6_1 + 2)))).bind fun t377 => (wicketref03_Unescape.j2 kj4 a0 x5_1 x6_1 (decide (t377 < 0)))) else (none)) else (none)))) else (none)) else (none))) else (if x5_1.length < 140737488355328 then (wicketref03_Unescape.l0 kj4 a0 (x5_1 ++ [(bt a0 x6_1)]) (wrap64 (x6_1 + 1))) else (none)))) = some (r1, r2, r3) := by rw [if_neg (show ¬ (false = true) by decide)] at H; exact H
           clear H
           have H := H1
           clear H1
           by_cases c8 : (bt a0 x6_1) = 43
           · rw [if_pos c8] at H
             have c8b0 : ((bt a0 x6_1) == 43) = true := beq_iff_eq.mpr c8
             have c8b1 : ((bt a0 x6_1) != 43) = false := bne_eq_false_iff_eq.mpr c8
             clear c8
             by_cases c9 : x5_1.length < 140737488355328
             · rw [if_pos c9] at H
               have LMc9 := Aside0.mk c9
               clear c9
               obtain ⟨y373, hy373⟩ : ∃ y_ : List Int, y_ = (x5_1 ++ [32]) := ⟨_, rfl⟩
               replace H : (wicketref03_Unescape.l0 kj4 a0 y373 (wrap64 (x6_1 + 1))) = some (r1, r2, r3) := by (rw [hy373]; with_reducible exact H)
               have Ny373 := Aside0.mk hy373
               clear hy373
               have H' := Aside0.mk H
               clear H
               go_wp2_with (first | ((with_reducible refine gate_builtin (b := .append) (xs := #[.tmp 31, .tmp 32]) rfl ?_); at_builtin; refine Kd.R_append (Kd.int .u8) (w0 := w) w.heap.size rfl (.tmp 31) (.tmp 32) 79 5 (.int .u8 0) 1 rfl Tryz.underlying79 info5 rfl (by decide) (by omega) u5 x5_1 32 [.int .u8 32] (fun _ => True) (fun _ => False) rfl rfl ?aP (fun _ hk => hk.elim) ?aF ?aO ?aB ?aS ?aL ?_; (case aP => exact rfl); (case aB => exact HB.out); (case aF => exact (fun _ _ => trivial)); (case aO => exact HO_5.out); (case aS => exact (below_size HB.out)); (case aL => have := LMc9.out; omega); intro v374 w10 ho hb hg hat; rw [← Ny373.out] at ho; have n0_ := Aside0.mk hb; have n1_ := Aside0.mk ho; clear HB HO_5; have HB := n0_; have HO375 := n1_; clear n0_ n1_; clear ho hb hg hat))
               go_roundg kj4
               case measure => have := HK1.out; have := HJ4.out; omega
               case rel => exact ⟨(y373), (wrap64 (x6_1 + 1)), rfl, H', ⟨by have := HK1.out; have := HJ4.out; omega⟩, ⟨HO375.out⟩, ⟨HB.out⟩⟩
             · rw [if_neg c9] at H
               exact absurd H (by simp)
           · rw [if_neg c8] at H
             have c8b0 : ((bt a0 x6_1) == 43) = false := beq_eq_false_iff_ne.mpr c8
             have c8b1 : ((bt a0 x6_1) != 43) = true := bne_iff_ne.mpr c8
             by_cases c11 : (bt a0 x6_1) = 37
             · rw [if_pos c11] at H
               have c11b0 : ((bt a0 x6_1) == 37) = true := beq_iff_eq.mpr c11
               have c11b1 : ((bt a0 x6_1) != 37) = false := bne_eq_false_iff_eq.mpr c11
               clear c11
               have HC12 := Aside0.mk H
               clear H
               go_upto_region 13 with (fail)
               go_cut [56] (fun v56 wc => ∃ (kq : Nat) (x56_11 : Bool), v56 = .bool x56_11 ∧ Aside0 (wicketref03_Unescape.j2 kq a0 x5_1 x6_1 x56_11 = some (r1, r2, r3)) ∧ Aside0 (kq ≤ kj4) ∧ Aside0 (Kd.R (Kd.int .u8) 5 wc w.heap.size (fun _ => True) u5 x5_1) ∧ Aside0 (Below w.heap.size w wc))
               case first =>
                have H := HC12.out
                clear HC12
                by_cases c13 : (wrap64 (x6_1 + 2)) ≥ (a0.size : Int)
                · rw [if_pos c13] at H
                  have c13b0 : decide ((a0.size : Int) ≤ (wrap64 (x6_1 + 2))) = true := decide_eq_true c13
                  clear c13
                  have H' := Aside0.mk H
                  clear H
                  go_wp2
                  go_meet
                  case rel => exact ⟨_, (true), rfl, H', ⟨by have := HK1.out; have := HJ4.out; (omega)⟩, ⟨HO_5.out⟩, ⟨HB.out⟩⟩
                · rw [if_neg c13] at H
                  have c13b0 : decide ((a0.size : Int) ≤ (wrap64 (x6_1 + 2))) = false := decide_eq_false c13
                  clear c13
                  obtain ⟨ji14, hji14⟩ : ∃ j_ : Int, (wrap64 (x6_1 + 1)) = j_ := ⟨_, rfl⟩
                  replace H : (if 0 ≤ (ji14) then (if (ji14) < (a0.size : Int) then ((wicketref03_digit.f kj4 (bt a0 (ji14))).bind fun t376 => (if t376 < 0 then (wicketref03_Unescape.j2 kj4 a0 x5_1 x6_1 true) else (if 0 ≤ (wrap64 (x6_1 + 2)) then (if (wrap64 (x6_1 + 2)) < (a0.size : Int) then ((wicketref03_digit.f kj4 (bt a0 (wrap64 (x6_1 + 2)))).bind fun t377 => (wicketref03_Unescape.j2 kj4 a0 x5_1 x6_1 (decide (t377 < 0)))) else (none)) else (none)))) else (none)) else (none)) = some (r1, r2, r3) := by (rw [hji14] at H; exact H)
                  have hji14w : (IntKind.i64.wrap (x6_1 + 1)) = ji14 := (i64_w _).trans hji14
                  by_cases c15 : 0 ≤ (ji14)
                  · rw [if_pos c15] at H
                    have c15b0 : decide (0 ≤ (ji14)) = true := decide_eq_true c15
                    clear c15
                    by_cases c16 : (ji14) < (a0.size : Int)
                    · rw [if_pos c16] at H
                      have c16b0 : decide ((ji14) < (a0.size : Int)) = true := decide_eq_true c16
                      clear c16
                      replace H := Option.bind_eq_some_iff.mp H
                      obtain ⟨t376, A180, H⟩ := H
                      replace H : (if t376 < 0 then (wicketref03_Unescape.j2 kj4 a0 x5_1 x6_1 true) else (if 0 ≤ (wrap64 (x6_1 + 2)) then (if (wrap64 (x6_1 + 2)) < (a0.size : Int) then ((wicketref03_digit.f kj4 (bt a0 (wrap64 (x6_1 + 2)))).bind fun t377 => (wicketref03_Unescape.j2 kj4 a0 x5_1 x6_1 (decide (t377 < 0)))) else (none)) else (none))) = some (r1, r2, r3) := H
                      have A18 := Aside0.mk A180
                      clear A180
                      by_cases c19 : t376 < 0
                      · rw [if_pos c19] at H
                        have c19b0 : decide (t376 < 0) = true := decide_eq_true c19
                        clear c19
                        have H' := Aside0.mk H
                        clear H
                        have p17 : 0 ≤ ((ji14) : Int) := of_decide_eq_true (by assumption)
                        have q17 : (ji14) < (a0.size : Int) := of_decide_eq_true (by assumption)
                        have hx17 := bt_at a0 (ji14)
                        replace p17 := eq_true p17
                        replace q17 := eq_true q17
                        go_wp2_with (first | (go_at_call 108; (with_reducible refine (wicketref03_digit.calls kj4 (bt a0 (ji14)) t376 _ A18.out).mono ?_); rintro e w' ⟨rfl, ⟨nd, rfl⟩⟩))
                        go_meet
                        case rel => exact ⟨_, (true), rfl, H', ⟨by have := HK1.out; have := HJ4.out; (omega)⟩, ⟨by ((with_reducible repeat (apply Kd.R_drewN)); exact HO_5.out)⟩, ⟨by (repeat (with_reducible first | exact HB.out | apply pw_below_drewN))⟩⟩
                      · rw [if_neg c19] at H
                        have c19b0 : decide (t376 < 0) = false := decide_eq_false c19
                        clear c19
                        obtain ⟨ji20, hji20⟩ : ∃ j_ : Int, (wrap64 (x6_1 + 2)) = j_ := ⟨_, rfl⟩
                        replace H : (if 0 ≤ (ji20) then (if (ji20) < (a0.size : Int) then ((wicketref03_digit.f kj4 (bt a0 (ji20))).bind fun t377 => (wicketref03_Unescape.j2 kj4 a0 x5_1 x6_1 (decide (t377 < 0)))) else (none)) else (none)) = some (r1, r2, r3) := by (rw [hji20] at H; exact H)
                        (try rw [hji20] at c13b0)
                        have hji20w : (IntKind.i64.wrap (x6_1 + 2)) = ji20 := (i64_w _).trans hji20
                        by_cases c21 : 0 ≤ (ji20)
                        · rw [if_pos c21] at H
                          have c21b0 : decide (0 ≤ (ji20)) = true := decide_eq_true c21
                          clear c21
                          by_cases c22 : (ji20) < (a0.size : Int)
                          · rw [if_pos c22] at H
                            have c22b0 : decide ((ji20) < (a0.size : Int)) = true := decide_eq_true c22
                            clear c22
                            replace H := Option.bind_eq_some_iff.mp H
                            obtain ⟨t377, A240, H⟩ := H
                            replace H : (wicketref03_Unescape.j2 kj4 a0 x5_1 x6_1 (decide (t377 < 0))) = some (r1, r2, r3) := H
                            have A24 := Aside0.mk A240
                            clear A240
                            have H' := Aside0.mk H
                            clear H
                            have p17 : 0 ≤ ((ji14) : Int) := of_decide_eq_true (by assumption)
                            have q17 : (ji14) < (a0.size : Int) := of_decide_eq_true (by assumption)
                            have hx17 := bt_at a0 (ji14)
                            replace p17 := eq_true p17
                            replace q17 := eq_true q17
                            go_wp2_with (first | (go_at_call 108; (with_reducible refine (wicketref03_digit.calls kj4 (bt a0 (ji14)) t376 _ A18.out).mono ?_); rintro e w' ⟨rfl, ⟨nd, rfl⟩⟩; have p23 : 0 ≤ ((ji20) : Int) := of_decide_eq_true (by assumption); have q23 : (ji20) < (a0.size : Int) := of_decide_eq_true (by assumption); have hx23 := bt_at a0 (ji20); replace p23 := eq_true p23; replace q23 := eq_true q23) | (go_at_call 108; (with_reducible refine (wicketref03_digit.calls kj4 (bt a0 (ji20)) t377 _ A24.out).mono ?_); rintro e w' ⟨rfl, ⟨nd, rfl⟩⟩))
                            go_meet
                            case rel => exact ⟨_, (decide (t377 < 0)), rfl, H', ⟨by have := HK1.out; have := HJ4.out; (omega)⟩, ⟨by ((with_reducible repeat (apply Kd.R_drewN)); exact HO_5.out)⟩, ⟨by (repeat (with_reducible first | exact HB.out | apply pw_below_drewN))⟩⟩
                          · rw [if_neg c22] at H
                            exact absurd H (by simp)
                        · rw [if_neg c21] at H
                          exact absurd H (by simp)
                    · rw [if_neg c16] at H
                      exact absurd H (by simp)
                  · rw [if_neg c15] at H
                    exact absurd H (by simp)
               case rest =>
                clear HC12 c8 c8b0 c8b1 c11b0 c11b1
                obtain ⟨kq, x56_11, rfl, HA, HJ11, HO_5, HB⟩ := hcut
                cases kq with
                | zero => exact absurd HA.out (by simp [wicketref03_Unescape.j2])
                | succ kj11 =>
                 have H := HA.out
                 clear HA
                 simp only [wicketref03_Unescape.j2] at H
                 by_cases c25 : x56_11 = true
                 · subst c25
                   have H1 : (some ((⟨#[]⟩ : ByteArray), 30, x6_1)) = some (r1, r2, r3) := by rw [if_pos rfl] at H; exact H
                   clear H
                   have H := H1
                   clear H1
                   simp only [Option.some.injEq, Prod.mk.injEq] at H
                   obtain ⟨rfl, rfl, rfl⟩ := H
                   go_wp2
                   go_ret3
                   exact ⟨by (rfl), by (with_reducible exact HB.out)⟩
                 · replace c25 := Bool.eq_false_iff.mpr c25
                   subst c25
                   have H1 : (if 0 ≤ (wrap64 (x6_1 + 1)) then (if (wrap64 (x6_1 + 1)) < (a0.size : Int) then ((wicketref03_digit.f kj11 (bt a0 (wrap64 (x6_1 + 1)))).bind fun t378 => (if 0 ≤ (wrap64 (x6_1 + 2)) then (if (wrap64 (x6_1 + 2)) < (a0.size : Int) then ((wicketref03_digit.f kj11 (bt a0 (wrap64 (x6_1 + 2)))).bind fun t379 => (if x5_1.length < 140737488355328 then (wicketref03_Unescape.l0 kj11 a0 (x5_1 ++ [(wrap64 ((wrap64 (16 * t378)) + t379)) % 256]) (wrap64 ((wrap64 (x6_1 + 2)) + 1))) else (none))) else (none)) else (none))) else (none)) else (none)) = some (r1, r2, r3) := by rw [if_neg (show ¬ (false = true) by decide)] at H; exact H
                   clear H
                   have H := H1
                   clear H1
                   obtain ⟨ji26, hji26⟩ : ∃ j_ : Int, (wrap64 (x6_1 + 1)) = j_ := ⟨_, rfl⟩
                   replace H : (if 0 ≤ (ji26) then (if (ji26) < (a0.size : Int) then ((wicketref03_digit.f kj11 (bt a0 (ji26))).bind fun t378 => (if 0 ≤ (wrap64 (x6_1 + 2)) then (if (wrap64 (x6_1 + 2)) < (a0.size : Int) then ((wicketref03_digit.f kj11 (bt a0 (wrap64 (x6_1 + 2)))).bind fun t379 => (if x5_1.length < 140737488355328 then (wicketref03_Unescape.l0 kj11 a0 (x5_1 ++ [(wrap64 ((wrap64 (16 * t378)) + t379)) % 256]) (wrap64 ((wrap64 (x6_1 + 2)) + 1))) else (none))) else (none)) else (none))) else (none)) else (none)) = some (r1, r2, r3) := by (rw [hji26] at H; exact H)
                   have hji26w : (IntKind.i64.wrap (x6_1 + 1)) = ji26 := (i64_w _).trans hji26
                   by_cases c27 : 0 ≤ (ji26)
                   · rw [if_pos c27] at H
                     have c27b0 : decide (0 ≤ (ji26)) = true := decide_eq_true c27
                     clear c27
                     by_cases c28 : (ji26) < (a0.size : Int)
                     · rw [if_pos c28] at H
                       have c28b0 : decide ((ji26) < (a0.size : Int)) = true := decide_eq_true c28
                       clear c28
                       replace H := Option.bind_eq_some_iff.mp H
                       obtain ⟨t378, A300, H⟩ := H
                       replace H : (if 0 ≤ (wrap64 (x6_1 + 2)) then (if (wrap64 (x6_1 + 2)) < (a0.size : Int) then ((wicketref03_digit.f kj11 (bt a0 (wrap64 (x6_1 + 2)))).bind fun t379 => (if x5_1.length < 140737488355328 then (wicketref03_Unescape.l0 kj11 a0 (x5_1 ++ [(wrap64 ((wrap64 (16 * t378)) + t379)) % 256]) (wrap64 ((wrap64 (x6_1 + 2)) + 1))) else (none))) else (none)) else (none)) = some (r1, r2, r3) := H
                       have A30 := Aside0.mk A300
                       clear A300
                       obtain ⟨ji31, hji31⟩ : ∃ j_ : Int, (wrap64 (x6_1 + 2)) = j_ := ⟨_, rfl⟩
                       replace H : (if 0 ≤ (ji31) then (if (ji31) < (a0.size : Int) then ((wicketref03_digit.f kj11 (bt a0 (ji31))).bind fun t379 => (if x5_1.length < 140737488355328 then (wicketref03_Unescape.l0 kj11 a0 (x5_1 ++ [(wrap64 ((wrap64 (16 * t378)) + t379)) % 256]) (wrap64 ((ji31) + 1))) else (none))) else (none)) else (none)) = some (r1, r2, r3) := by (rw [hji31] at H; exact H)
                       have hji31w : (IntKind.i64.wrap (x6_1 + 2)) = ji31 := (i64_w _).trans hji31
                       by_cases c32 : 0 ≤ (ji31)
                       · rw [if_pos c32] at H
                         have c32b0 : decide (0 ≤ (ji31)) = true := decide_eq_true c32
                         clear c32
                         by_cases c33 : (ji31) < (a0.size : Int)
                         · rw [if_pos c33] at H
                           have c33b0 : decide ((ji31) < (a0.size : Int)) = true := decide_eq_true c33
                           clear c33
                           replace H := Option.bind_eq_some_iff.mp H
                           obtain ⟨t379, A350, H⟩ := H
                           replace H : (if x5_1.length < 140737488355328 then (wicketref03_Unescape.l0 kj11 a0 (x5_1 ++ [(wrap64 ((wrap64 (16 * t378)) + t379)) % 256]) (wrap64 ((ji31) + 1))) else (none)) = some (r1, r2, r3) := H
                           have A35 := Aside0.mk A350
                           clear A350
                           by_cases c36 : x5_1.length < 140737488355328
                           · rw [if_pos c36] at H
                             have LMc36 := Aside0.mk c36
                             clear c36
                             obtain ⟨y380, hy380⟩ : ∃ y_ : List Int, y_ = (x5_1 ++ [(wrap64 ((wrap64 (16 * t378)) + t379)) % 256]) := ⟨_, rfl⟩
                             replace H : (wicketref03_Unescape.l0 kj11 a0 y380 (wrap64 ((ji31) + 1))) = some (r1, r2, r3) := by (rw [hy380]; with_reducible exact H)
                             have Ny380 := Aside0.mk hy380
                             clear hy380
                             have H' := Aside0.mk H
                             clear H
                             try go_wp2
                             have n0_ := Aside0.mk (Kd.R_drew HO_5.out)
                             have n1_ := Aside0.mk (below_drew1 HB.out)
                             clear HO_5 HB
                             have HO_5 := n0_
                             have HB := n1_
                             clear n0_ n1_
                             have p29 : 0 ≤ ((ji26) : Int) := of_decide_eq_true (by assumption)
                             have q29 : (ji26) < (a0.size : Int) := of_decide_eq_true (by assumption)
                             have hx29 := bt_at a0 (ji26)
                             replace p29 := eq_true p29
                             replace q29 := eq_true q29
                             have p34 : 0 ≤ ((ji31) : Int) := of_decide_eq_true (by assumption)
                             have q34 : (ji31) < (a0.size : Int) := of_decide_eq_true (by assumption)
                             have hx34 := bt_at a0 (ji31)
                             replace p34 := eq_true p34
                             replace q34 := eq_true q34
                             refine start_ (n := 17) (S := fun w' => True) (ds := []) #[false, false, false, false, false, false, false, false, false, false, false, false, false, false, false, false, false] (by kernel_rfl) rfl rfl trivial (fun hHeld => ?_); refine with_tabW wicketref03_Unescape.tab15 wicketref03_Unescape.bits15 (fun HT_ HW_ => ?_)
                             generalize wc.drew = w37 at HO_5 HB hHeld ⊢
                             refine pure_ (i := 0) (N := some 58) (v := ?_) (a' := ?_) #[true, false, false, false, false, false, false, false, false, false, false, false, false, false, false, false, false] rfl rfl (any_of HT_.out (by kernel_rfl)) (fun _ _ _ h => h) (Or.inl ⟨by rfl, ?_⟩) ?_ ?_
                             rotate_left
                             · intro w'
                               go_simp
                               with_reducible rfl
                             rotate_left
                             · simp only [Act.put, List.setIfInBounds_toArray, List.set_cons_zero, List.set_cons_succ, i64_w, i32_w]
                               rfl
                             refine pure_ (i := 1) (N := some 59) (v := ?_) (a' := ?_) #[true, true, false, false, false, false, false, false, false, false, false, false, false, false, false, false, false] rfl rfl (any_of HT_.out (by kernel_rfl)) (fun _ _ _ h => h) (Or.inl ⟨by rfl, ?_⟩) ?_ ?_
                             rotate_left
                             · intro w'
                               go_simp
                               with_reducible rfl
                             rotate_left
                             · simp only [Act.put, List.setIfInBounds_toArray, List.set_cons_zero, List.set_cons_succ, i64_w, i32_w]
                               rfl
                             refine pure_ (i := 2) (N := some 60) (v := ?_) (a' := ?_) #[true, true, true, false, false, false, false, false, false, false, false, false, false, false, false, false, false] rfl rfl (any_of HT_.out (by kernel_rfl)) (fun _ _ _ h => h) (Or.inl ⟨by rfl, ?_⟩) ?_ ?_
                             rotate_left
                             · intro w'
                               go_simp
                               with_reducible rfl
                             rotate_left
                             · simp only [Act.put, List.setIfInBounds_toArray, List.set_cons_zero, List.set_cons_succ, i64_w, i32_w]
                               rfl
                             refine pure_ (i := 3) (N := some 61) (v := ?_) (a' := ?_) #[true, true, true, true, false, false, false, false, false, false, false, false, false, false, false, false, false] rfl rfl (any_of HT_.out (by kernel_rfl)) (fun _ _ _ h => h) (Or.inl ⟨by rfl, ?_⟩) ?_ ?_
                             rotate_left
                             · intro w'
                               go_simp
                               with_reducible rfl
                             rotate_left
                             · simp only [Act.put, List.setIfInBounds_toArray, List.set_cons_zero, List.set_cons_succ, i64_w, i32_w]
                               rfl
                             refine pure_ (i := 7) (N := some 65) (v := ?_) (a' := ?_) #[true, true, true, true, false, false, false, true, false, false, false, false, false, false, false, false, false] rfl rfl (any_of HT_.out (by kernel_rfl)) (fun _ _ _ h => h) (Or.inl ⟨by rfl, ?_⟩) ?_ ?_
                             rotate_left
                             · intro w'
                               go_simp
                               with_reducible rfl
                             rotate_left
                             · simp only [Act.put, List.setIfInBounds_toArray, List.set_cons_zero, List.set_cons_succ, i64_w, i32_w]
                               rfl
                             refine pure_ (i := 8) (N := some 66) (v := ?_) (a' := ?_) #[true, true, true, true, false, false, false, true, true, false, false, false, false, false, false, false, false] rfl rfl (any_of HT_.out (by kernel_rfl)) (fun _ _ _ h => h) (Or.inl ⟨by rfl, ?_⟩) ?_ ?_
                             rotate_left
                             · intro w'
                               go_simp
                               with_reducible rfl
                             rotate_left
                             · simp only [Act.put, List.setIfInBounds_toArray, List.set_cons_zero, List.set_cons_succ, i64_w, i32_w]
                               rfl
                             refine pure_ (i := 9) (N := some 67) (v := ?_) (a' := ?_) #[true, true, true, true, false, false, false, true, true, true, false, false, false, false, false, false, false] rfl rfl (any_of HT_.out (by kernel_rfl)) (fun _ _ _ h => h) (Or.inl ⟨by rfl, ?_⟩) ?_ ?_
                             rotate_left
                             · intro w'
                               go_simp
                               with_reducible rfl
                             rotate_left
                             · simp only [Act.put, List.setIfInBounds_toArray, List.set_cons_zero, List.set_cons_succ, i64_w, i32_w]
                               rfl
                             refine take_ (i := 4) (N := some 62) (v := ?_) (a' := ?_) #[true, true, true, true, true, false, false, true, true, true, false, false, false, false, false, false, false] rfl rfl (take_ofW HT_.out HW_.out (by kernel_rfl)) (fun _ _ _ h => h) (Or.inl ⟨by rfl, ?_⟩) hHeld ?_ ?_
                             rotate_left
                             · intro w' _
                               go_simp
                               with_reducible rfl
                             rotate_left
                             · simp only [Act.put, List.setIfInBounds_toArray, List.set_cons_zero, List.set_cons_succ, i64_w, i32_w]
                               rfl
                             refine take_ (i := 10) (N := some 68) (v := ?_) (a' := ?_) #[true, true, true, true, true, false, false, true, true, true, true, false, false, false, false, false, false] rfl rfl (take_ofW HT_.out HW_.out (by kernel_rfl)) (fun _ _ _ h => h) (Or.inl ⟨by rfl, ?_⟩) hHeld ?_ ?_
                             rotate_left
                             · intro w' _
                               go_simp
                               with_reducible rfl
                             rotate_left
                             · simp only [Act.put, List.setIfInBounds_toArray, List.set_cons_zero, List.set_cons_succ, i64_w, i32_w]
                               rfl
                             refine one_ (i := 5) (N := some 63) #[true, true, true, true, true, true, false, true, true, true, true, false, false, false, false, false, false] rfl rfl (one_of HT_.out (by kernel_rfl)) (by decide) (fun K hK => ?_)
                             refine goes_ Tryz.func108 (by kernel_rfl) rfl #[.int .u8 (bt a0 (ji26))] rfl rfl rfl (by (try simp only [List.map_toArray, List.map_cons, List.map_nil]); (rfl)) ?_
                             with_reducible refine (wicketref03_digit.calls kj11 (bt a0 (ji26)) t378 _ A30.out).mono ?_
                             rintro e w' ⟨rfl, ⟨nd, rfl⟩⟩
                             refine ⟨_, rfl, ?_⟩
                             refine hK.out _ _ trivial (fun hHeld => ?_)
                             clear hK K
                             refine norm_ (a' := ?_) ?_ ?_
                             rotate_left
                             · show Act.put _ (some 63) _ = _
                               simp only [Act.put, List.setIfInBounds_toArray, List.set_cons_zero, List.set_cons_succ, i64_w, i32_w]
                               rfl
                             refine pure_ (i := 6) (N := some 64) (v := ?_) (a' := ?_) #[true, true, true, true, true, true, true, true, true, true, true, false, false, false, false, false, false] rfl rfl (any_of HT_.out (by kernel_rfl)) (fun _ _ _ h => h) (Or.inl ⟨by rfl, ?_⟩) ?_ ?_
                             rotate_left
                             · intro w'
                               go_simp
                               with_reducible rfl
                             rotate_left
                             · simp only [Act.put, List.setIfInBounds_toArray, List.set_cons_zero, List.set_cons_succ, i64_w, i32_w]
                               rfl
                             refine one_ (i := 11) (N := some 69) #[true, true, true, true, true, true, true, true, true, true, true, true, false, false, false, false, false] rfl rfl (one_of HT_.out (by kernel_rfl)) (by decide) (fun K hK => ?_)
                             refine goes_ Tryz.func108 (by kernel_rfl) rfl #[.int .u8 (bt a0 (ji31))] rfl rfl rfl (by (try simp only [List.map_toArray, List.map_cons, List.map_nil]); (rfl)) ?_
                             with_reducible refine (wicketref03_digit.calls kj11 (bt a0 (ji31)) t379 _ A35.out).mono ?_
                             rintro e w' ⟨rfl, ⟨nd, rfl⟩⟩
                             refine ⟨_, rfl, ?_⟩
                             refine hK.out _ _ trivial (fun hHeld => ?_)
                             clear hK K
                             refine norm_ (a' := ?_) ?_ ?_
                             rotate_left
                             · show Act.put _ (some 69) _ = _
                               simp only [Act.put, List.setIfInBounds_toArray, List.set_cons_zero, List.set_cons_succ, i64_w, i32_w]
                               rfl
                             refine pure_ (i := 12) (N := some 70) (v := ?_) (a' := ?_) #[true, true, true, true, true, true, true, true, true, true, true, true, true, false, false, false, false] rfl rfl (any_of HT_.out (by kernel_rfl)) (fun _ _ _ h => h) (Or.inl ⟨by rfl, ?_⟩) ?_ ?_
                             rotate_left
                             · intro w'
                               go_simp
                               with_reducible rfl
                             rotate_left
                             · simp only [Act.put, List.setIfInBounds_toArray, List.set_cons_zero, List.set_cons_succ, i64_w, i32_w]
                               rfl
                             refine pure_ (i := 13) (N := some 71) (v := ?_) (a' := ?_) #[true, true, true, true, true, true, true, true, true, true, true, true, true, true, false, false, false] rfl rfl (any_of HT_.out (by kernel_rfl)) (fun _ _ _ h => h) (Or.inl ⟨by rfl, ?_⟩) ?_ ?_
                             rotate_left
                             · intro w'
                               go_simp
                               with_reducible rfl
                             rotate_left
                             · simp only [Act.put, List.setIfInBounds_toArray, List.set_cons_zero, List.set_cons_succ, i64_w, i32_w]
                               rfl
                             refine one_ (i := 14) (N := some 72) #[true, true, true, true, true, true, true, true, true, true, true, true, true, true, true, false, false] rfl rfl (one_of HT_.out (by kernel_rfl)) (by decide) (fun K hK => ?_)
                             refine value_ (w1 := ?_) (v := ?_) rfl rfl ?_ ?_
                             rotate_left 2
                             · go_simp
                               constructor
                               · rfl
                               · rfl
                             refine hK.out _ _ trivial (fun hHeld => ?_)
                             clear hK K
                             refine norm_ (a' := ?_) ?_ ?_
                             rotate_left
                             · show Act.put _ (some 72) _ = _
                               simp only [Act.put, List.setIfInBounds_toArray, List.set_cons_zero, List.set_cons_succ, i64_w, i32_w]
                               rfl
                             refine one_ (i := 15) (N := some 73) #[true, true, true, true, true, true, true, true, true, true, true, true, true, true, true, true, false] rfl rfl (one_of HT_.out (by kernel_rfl)) (by decide) (fun K hK => ?_)
                             refine Kd.R_append_step (Kd.int .u8) (w0 := w) w.heap.size rfl (.tmp 58) (.tmp 72) 79 5 (.int .u8 0) 1 rfl Tryz.underlying79 info5 rfl (by decide) (by omega) u5 x5_1 ((wrap64 ((wrap64 (16 * t378)) + t379)) % 256) [.int .u8 ((wrap64 ((wrap64 (16 * t378)) + t379)) % 256)] (fun _ => True) (fun _ => False) rfl rfl ?aP (fun _ hk => hk.elim) ?aF ?aO ?aB ?aS ?aL ?_
                             (case aP => exact rfl)
                             (case aB => exact (by (repeat (with_reducible first | exact HB.out | apply pw_below_drewN))))
                             (case aF => exact (fun _ _ => trivial))
                             (case aO => exact (by ((with_reducible repeat (apply Kd.R_drewN)); exact HO_5.out)))
                             (case aS => exact (below_size (by (repeat (with_reducible first | exact HB.out | apply pw_below_drewN)))))
                             (case aL => have := LMc36.out; omega)
                             intro v381 w38 ho hb hg hat
                             rw [← Ny380.out] at ho
                             have n0_ := Aside0.mk hb
                             have n1_ := Aside0.mk ho
                             clear HB HO_5
                             have HB := n0_
                             have HO382 := n1_
                             clear n0_ n1_ ho hb hg hat
                             refine hK.out _ _ trivial (fun hHeld => ?_)
                             clear hK K
                             refine norm_ (a' := ?_) ?_ ?_
                             rotate_left
                             · show Act.put _ (some 73) _ = _
                               simp only [Act.put, List.setIfInBounds_toArray, List.set_cons_zero, List.set_cons_succ, i64_w, i32_w]
                               rfl
                             refine pure_ (i := 16) (N := some 5) (v := ?_) (a' := ?_) #[true, true, true, true, true, true, true, true, true, true, true, true, true, true, true, true, true] rfl rfl (any_of HT_.out (by kernel_rfl)) (fun _ _ _ h => h) (Or.inl ⟨by rfl, ?_⟩) ?_ ?_
                             rotate_left
                             · intro w'
                               go_simp
                               with_reducible rfl
                             rotate_left
                             · simp only [Act.put, List.setIfInBounds_toArray, List.set_cons_zero, List.set_cons_succ, i64_w, i32_w]
                               rfl
                             refine done_ (done_of HT_.out (by kernel_rfl)) ?_
                             try go_wp2
                             go_roundg kj11
                             case measure => have := HK1.out; have := HJ4.out; have := HJ11.out; omega
                             case rel => exact ⟨(y380), (wrap64 ((ji31) + 1)), rfl, H', ⟨by have := HK1.out; have := HJ4.out; have := HJ11.out; omega⟩, ⟨HO382.out⟩, ⟨HB.out⟩⟩
                           · rw [if_neg c36] at H
                             exact absurd H (by simp)
                         · rw [if_neg c33] at H
                           exact absurd H (by simp)
                       · rw [if_neg c32] at H
                         exact absurd H (by simp)
                     · rw [if_neg c28] at H
                       exact absurd H (by simp)
                   · rw [if_neg c27] at H
                     exact absurd H (by simp)
             · rw [if_neg c11] at H
               have c11b0 : ((bt a0 x6_1) == 37) = false := beq_eq_false_iff_ne.mpr c11
               have c11b1 : ((bt a0 x6_1) != 37) = true := bne_iff_ne.mpr c11
               by_cases c39 : x5_1.length < 140737488355328
               · rw [if_pos c39] at H
                 have LMc39 := Aside0.mk c39
                 clear c39
                 obtain ⟨y383, hy383⟩ : ∃ y_ : List Int, y_ = (x5_1 ++ [(bt a0 x6_1)]) := ⟨_, rfl⟩
                 replace H : (wicketref03_Unescape.l0 kj4 a0 y383 (wrap64 (x6_1 + 1))) = some (r1, r2, r3) := by (rw [hy383]; with_reducible exact H)
                 have Ny383 := Aside0.mk hy383
                 clear hy383
                 have H' := Aside0.mk H
                 clear H
                 go_wp2_with (first | ((with_reducible refine gate_builtin (b := .append) (xs := #[.tmp 25, .tmp 27]) rfl ?_); at_builtin; refine Kd.R_append (Kd.int .u8) (w0 := w) w.heap.size rfl (.tmp 25) (.tmp 27) 79 5 (.int .u8 0) 1 rfl Tryz.underlying79 info5 rfl (by decide) (by omega) u5 x5_1 (bt a0 x6_1) [.int .u8 (bt a0 x6_1)] (fun _ => True) (fun _ => False) rfl rfl ?aP (fun _ hk => hk.elim) ?aF ?aO ?aB ?aS ?aL ?_; (case aP => exact rfl); (case aB => exact HB.out); (case aF => exact (fun _ _ => trivial)); (case aO => exact HO_5.out); (case aS => exact (below_size HB.out)); (case aL => have := LMc39.out; omega); intro v384 w40 ho hb hg hat; rw [← Ny383.out] at ho; have n0_ := Aside0.mk hb; have n1_ := Aside0.mk ho; clear HB HO_5; have HB := n0_; have HO385 := n1_; clear n0_ n1_; clear ho hb hg hat))
                 go_roundg kj4
                 case measure => have := HK1.out; have := HJ4.out; omega
                 case rel => exact ⟨(y383), (wrap64 (x6_1 + 1)), rfl, H', ⟨by have := HK1.out; have := HJ4.out; omega⟩, ⟨HO385.out⟩, ⟨HB.out⟩⟩
               · rw [if_neg c39] at H
                 exact absurd H (by simp)
     · rw [if_neg c3] at H
       exact absurd H (by simp)
   · rw [if_neg c2] at H
     have c2b0 : decide (x6_1 < (a0.size : Int)) = false := decide_eq_false c2
     clear c2
     simp only [Option.some.injEq, Prod.mk.injEq] at H
     obtain ⟨rfl, rfl, rfl⟩ := H
     have hcv41 := own_string (P := Tryz.prog) Tryz.underlying79 Tryz.underlying5 Tryz.underlying9 (Kd.own_of_R HO_5.out)
     go_wp2
     go_ret3
     exact ⟨by (rfl), by (with_reducible exact HB.out)⟩
end Go.Proofs.YtmimipgmhgalaaaGreatDoor.PAll
end
section
namespace Go.Proofs.YtmimipgmhgalaaaGreatDoor.PAll
open Go.RowKit Go.Proofs.YtmimipgmhgalaaaGreatDoorW.PrintWords Go.Proofs.YtmimipgmhgalaaaGreatDoorW.PrintLast Go.Proofs.YtmimipgmhgalaaaGreatDoorW.PrintMore
attribute [local go_sem] max2_int min2_int max_two min_two max_three min_three max_four min_four
set_option linter.unusedVariables false
set_option linter.unusedSimpArgs false
mutual
def wicketref11_six.j0 : Nat → Int → Bool → Option (Int)
 | 0, _, _ => none
 | k + 1, x0, x3 => if x3 = true then (some ((x0 - 65) % 256)) else (if x0 ≥ 97 then (wicketref11_six.j1 k x0 (decide (x0 ≤ 122))) else (wicketref11_six.j1 k x0 false))
def wicketref11_six.j1 : Nat → Int → Bool → Option (Int)
 | 0, _, _ => none
 | k + 1, x0, x13 => if x13 = true then (some (((x0 - 97) % 256) + 26)) else (if x0 ≥ 48 then (wicketref11_six.j2 k x0 (decide (x0 ≤ 57))) else (wicketref11_six.j2 k x0 false))
def wicketref11_six.j2 : Nat → Int → Bool → Option (Int)
 | 0, _, _ => none
 | k + 1, x0, x24 => if x24 = true then (some (((x0 - 48) % 256) + 52)) else (if x0 = 43 then (some 62) else (if x0 = 47 then (some 63) else (some (-1))))
end
def wicketref11_six.f (k : Nat) (a0 : Int) : Option (Int) := if a0 ≥ 65 then (wicketref11_six.j0 k a0 (decide (a0 ≤ 90))) else (wicketref11_six.j0 k a0 false)
theorem wicketref11_six.mono_l : ∀ k, (∀ y0 y1, LeO (wicketref11_six.j0 k y0 y1) (wicketref11_six.j0 (k + 1) y0 y1)) ∧ (∀ y0 y1, LeO (wicketref11_six.j1 k y0 y1) (wicketref11_six.j1 (k + 1) y0 y1)) ∧ (∀ y0 y1, LeO (wicketref11_six.j2 k y0 y1) (wicketref11_six.j2 (k + 1) y0 y1))
 | 0 => ⟨fun _ _ r h => by simp [wicketref11_six.j0] at h, fun _ _ r h => by simp [wicketref11_six.j1] at h, fun _ _ r h => by simp [wicketref11_six.j2] at h⟩
 | k + 1 => by
  obtain ⟨ih0, ih1, ih2⟩ := wicketref11_six.mono_l k
  refine ⟨?_, ?_, ?_⟩
  · intro y0 y1
    unfold wicketref11_six.j0
    repeat' first
    | (with_reducible exact ih1 _ _)
    | (with_reducible exact LeO.refl _)
    | (with_reducible refine LeO.ite ?_ ?_)
  · intro y0 y1
    unfold wicketref11_six.j1
    repeat' first
    | (with_reducible exact ih2 _ _)
    | (with_reducible exact LeO.refl _)
    | (with_reducible refine LeO.ite ?_ ?_)
  · intro y0 y1
    unfold wicketref11_six.j2
    repeat' first
    | (with_reducible exact LeO.refl _)
theorem wicketref11_six.mono : ∀ a0 k, LeO (wicketref11_six.f k a0) (wicketref11_six.f (k + 1) a0) := by
 intro a0 k
 obtain ⟨ih0, ih1, ih2⟩ := wicketref11_six.mono_l k
 unfold wicketref11_six.f
 repeat' first
  | (with_reducible exact ih0 _ _)
  | (with_reducible refine LeO.ite ?_ ?_)
set_option maxHeartbeats 8000000 in
set_option maxRecDepth 100000 in
theorem wicketref11_six.calls (k : Nat) (a0 : Int) (r : Int) (w : World) (h : wicketref11_six.f k a0 = some r) :
 Calls Tryz.prog 107 #[.int .u8 a0] w fun e w' => e = .returned (.int .i64 r) ∧ Drawn0 w w' := by
 have H : (if a0 ≥ 65 then (wicketref11_six.j0 k a0 (decide (a0 ≤ 90))) else (wicketref11_six.j0 k a0 false)) = some r := h
 clear h
 have HC2 := Aside0.mk H
 clear H
 go_enter Tryz.func107, Tryz.ntmps107
 go_upto_region 1 with (fail)
 go_cut [3] (fun v3 wc => ∃ (kq : Nat) (x3_1 : Bool), v3 = .bool x3_1 ∧ Aside0 (wicketref11_six.j0 kq a0 x3_1 = some r) ∧ Aside0 (kq ≤ k) ∧ Drawn0 w wc)
 case first =>
  have H := HC2.out
  clear HC2
  by_cases c3 : a0 ≥ 65
  · rw [if_pos c3] at H
    have c3b0 : decide (65 ≤ a0) = true := decide_eq_true c3
    clear c3
    have H' := Aside0.mk H
    clear H
    go_wp2
    go_meet
    case rel => exact ⟨_, (decide (a0 ≤ 90)), rfl, H', ⟨by (omega)⟩, by repeat (exact Drawn0.refl _)⟩
  · rw [if_neg c3] at H
    have c3b0 : decide (65 ≤ a0) = false := decide_eq_false c3
    clear c3
    have H' := Aside0.mk H
    clear H
    go_wp2
    go_meet
    case rel => exact ⟨_, (false), rfl, H', ⟨by (omega)⟩, by repeat (exact Drawn0.refl _)⟩
 case rest =>
  clear HC2
  obtain ⟨kq, x3_1, rfl, HA, HJ1, ⟨mc1, rfl⟩⟩ := hcut
  cases kq with
  | zero => exact absurd HA.out (by simp [wicketref11_six.j0])
  | succ kj1 =>
   have H := HA.out
   clear HA
   simp only [wicketref11_six.j0] at H
   by_cases c4 : x3_1 = true
   · subst c4
     have H1 : (some ((a0 - 65) % 256)) = some r := by rw [if_pos rfl] at H; exact H
     clear H
     have H := H1
     clear H1
     obtain rfl := Option.some.inj H
     go_wp2
     go_ret
     exact ⟨by (rfl), by repeat (first | exact Drawn0.refl _ | apply Drawn0.step)⟩
   · replace c4 := Bool.eq_false_iff.mpr c4
     subst c4
     have H1 : (if a0 ≥ 97 then (wicketref11_six.j1 kj1 a0 (decide (a0 ≤ 122))) else (wicketref11_six.j1 kj1 a0 false)) = some r := by rw [if_neg (show ¬ (false = true) by decide)] at H; exact H
     clear H
     have H := H1
     clear H1
     have HC5 := Aside0.mk H
     clear H
     go_upto_region 3 with (fail)
     go_cut [13] (fun v13 wc => ∃ (kq : Nat) (x13_4 : Bool), v13 = .bool x13_4 ∧ Aside0 (wicketref11_six.j1 kq a0 x13_4 = some r) ∧ Aside0 (kq ≤ kj1) ∧ Drawn0 w wc)
     case first =>
      have H := HC5.out
      clear HC5
      by_cases c6 : a0 ≥ 97
      · rw [if_pos c6] at H
        have c6b0 : decide (97 ≤ a0) = true := decide_eq_true c6
        clear c6
        have H' := Aside0.mk H
        clear H
        go_wp2
        go_meet
        case rel => exact ⟨_, (decide (a0 ≤ 122)), rfl, H', ⟨by have := HJ1.out; (omega)⟩, by repeat (first | exact Drawn0.refl _ | apply Drawn0.step)⟩
      · rw [if_neg c6] at H
        have c6b0 : decide (97 ≤ a0) = false := decide_eq_false c6
        clear c6
        have H' := Aside0.mk H
        clear H
        go_wp2
        go_meet
        case rel => exact ⟨_, (false), rfl, H', ⟨by have := HJ1.out; (omega)⟩, by repeat (first | exact Drawn0.refl _ | apply Drawn0.step)⟩
     case rest =>
      clear HC5
      obtain ⟨kq, x13_4, rfl, HA, HJ4, ⟨mc4, rfl⟩⟩ := hcut
      cases kq with
      | zero => exact absurd HA.out (by simp [wicketref11_six.j1])
      | succ kj4 =>
       have H := HA.out
       clear HA
       simp only [wicketref11_six.j1] at H
       by_cases c7 : x13_4 = true
       · subst c7
         have H1 : (some (((a0 - 97) % 256) + 26)) = some r := by rw [if_pos rfl] at H; exact H
         clear H
         have H := H1
         clear H1
         obtain rfl := Option.some.inj H
         go_wp2
         go_ret
         exact ⟨by (rfl), by repeat (first | exact Drawn0.refl _ | apply Drawn0.step)⟩
       · replace c7 := Bool.eq_false_iff.mpr c7
         subst c7
         have H1 : (if a0 ≥ 48 then (wicketref11_six.j2 kj4 a0 (decide (a0 ≤ 57))) else (wicketref11_six.j2 kj4 a0 false)) = some r := by rw [if_neg (show ¬ (false = true) by decide)] at H; exact H
         clear H
         have H := H1
         clear H1
         have HC8 := Aside0.mk H
         clear H
         go_upto_region 5 with (fail)
         go_cut [24] (fun v24 wc => ∃ (kq : Nat) (x24_7 : Bool), v24 = .bool x24_7 ∧ Aside0 (wicketref11_six.j2 kq a0 x24_7 = some r) ∧ Aside0 (kq ≤ kj4) ∧ Drawn0 w wc)
         case first =>
          have H := HC8.out
          clear HC8
          by_cases c9 : a0 ≥ 48
          · rw [if_pos c9] at H
            have c9b0 : decide (48 ≤ a0) = true := decide_eq_true c9
            clear c9
            have H' := Aside0.mk H
            clear H
            go_wp2
            go_meet
            case rel => exact ⟨_, (decide (a0 ≤ 57)), rfl, H', ⟨by have := HJ1.out; have := HJ4.out; (omega)⟩, by repeat (first | exact Drawn0.refl _ | apply Drawn0.step)⟩
          · rw [if_neg c9] at H
            have c9b0 : decide (48 ≤ a0) = false := decide_eq_false c9
            clear c9
            have H' := Aside0.mk H
            clear H
            go_wp2
            go_meet
            case rel => exact ⟨_, (false), rfl, H', ⟨by have := HJ1.out; have := HJ4.out; (omega)⟩, by repeat (first | exact Drawn0.refl _ | apply Drawn0.step)⟩
         case rest =>
          clear HC8
          obtain ⟨kq, x24_7, rfl, HA, HJ7, ⟨mc7, rfl⟩⟩ := hcut
          cases kq with
          | zero => exact absurd HA.out (by simp [wicketref11_six.j2])
          | succ kj7 =>
           have H := HA.out
           clear HA
           simp only [wicketref11_six.j2] at H
           by_cases c10 : x24_7 = true
           · subst c10
             have H1 : (some (((a0 - 48) % 256) + 52)) = some r := by rw [if_pos rfl] at H; exact H
             clear H
             have H := H1
             clear H1
             obtain rfl := Option.some.inj H
             go_wp2
             go_ret
             exact ⟨by (rfl), by repeat (first | exact Drawn0.refl _ | apply Drawn0.step)⟩
           · replace c10 := Bool.eq_false_iff.mpr c10
             subst c10
             have H1 : (if a0 = 43 then (some 62) else (if a0 = 47 then (some 63) else (some (-1)))) = some r := by rw [if_neg (show ¬ (false = true) by decide)] at H; exact H
             clear H
             have H := H1
             clear H1
             by_cases c11 : a0 = 43
             · rw [if_pos c11] at H
               have c11b0 : (a0 == 43) = true := beq_iff_eq.mpr c11
               have c11b1 : (a0 != 43) = false := bne_eq_false_iff_eq.mpr c11
               clear c11
               obtain rfl := Option.some.inj H
               go_wp2
               go_ret
               exact ⟨by (rfl), by repeat (first | exact Drawn0.refl _ | apply Drawn0.step)⟩
             · rw [if_neg c11] at H
               have c11b0 : (a0 == 43) = false := beq_eq_false_iff_ne.mpr c11
               have c11b1 : (a0 != 43) = true := bne_iff_ne.mpr c11
               by_cases c12 : a0 = 47
               · rw [if_pos c12] at H
                 have c12b0 : (a0 == 47) = true := beq_iff_eq.mpr c12
                 have c12b1 : (a0 != 47) = false := bne_eq_false_iff_eq.mpr c12
                 clear c12
                 obtain rfl := Option.some.inj H
                 go_wp2
                 go_ret
                 exact ⟨by (rfl), by repeat (first | exact Drawn0.refl _ | apply Drawn0.step)⟩
               · rw [if_neg c12] at H
                 have c12b0 : (a0 == 47) = false := beq_eq_false_iff_ne.mpr c12
                 have c12b1 : (a0 != 47) = true := bne_iff_ne.mpr c12
                 obtain rfl := Option.some.inj H
                 go_wp2
                 go_ret
                 exact ⟨by (rfl), by repeat (first | exact Drawn0.refl _ | apply Drawn0.step)⟩
end Go.Proofs.YtmimipgmhgalaaaGreatDoor.PAll
end
section
namespace Go.Proofs.YtmimipgmhgalaaaGreatDoor.PAll
open Go.RowKit Go.Proofs.YtmimipgmhgalaaaGreatDoorW.PrintWords Go.Proofs.YtmimipgmhgalaaaGreatDoorW.PrintLast Go.Proofs.YtmimipgmhgalaaaGreatDoorW.PrintMore
attribute [local go_sem] max2_int min2_int max_two min_two max_three min_three max_four min_four
set_option linter.unusedVariables false
set_option linter.unusedSimpArgs false
attribute [local go_sem] IntKind.wrap_u8
mutual
def wicketref11_decoded.j1 : Nat → ByteArray → Int → Option (ByteArray × Bool)
 | 0, _, _ => none
 | k + 1, x0, x4 => wicketref11_decoded.l1 k x0 (wrap64 ((x0.size : Int) - x4)) ([] : List Int) 0
def wicketref11_decoded.l1 : Nat → ByteArray → Int → List Int → Int → Option (ByteArray × Bool)
 | 0, _, _, _, _ => none
 | k + 1, x0, x5, x6, x7 => if x7 < x5 then (if 0 ≤ x7 then (if x7 < (x0.size : Int) then ((wicketref11_six.f k (bt x0 x7)).bind fun t432 => (if t432 < 0 then (some ((⟨#[]⟩ : ByteArray), false)) else (wicketref11_decoded.l2 k x0 x5 x6 x7 t432 32))) else (none)) else (none)) else (wicketref11_decoded.l3 k x6 ([] : List Int))
def wicketref11_decoded.l2 : Nat → ByteArray → Int → List Int → Int → Int → Int → Option (ByteArray × Bool)
 | 0, _, _, _, _, _, _ => none
 | k + 1, x0, x5, x6, x7, x8, x9 => if x9 > 0 then (if x9 = 0 then (none) else (if x6.length < 17592186044416 then (wicketref11_decoded.l2 k x0 x5 (x6 ++ [Int.tmod (wrap64 (Int.tdiv x8 x9)) 2]) x7 x8 (wrap64 (Int.tdiv x9 2))) else (none))) else (wicketref11_decoded.l1 k x0 x5 x6 (wrap64 (x7 + 1)))
def wicketref11_decoded.l3 : Nat → List Int → List Int → Option (ByteArray × Bool)
 | 0, _, _ => none
 | k + 1, x6, x10 => if (x6.length : Int) ≥ 8 then (wicketref11_decoded.l4 k x6 x10 0 0) else (wicketref11_decoded.l5 k x6 x10 0)
def wicketref11_decoded.l4 : Nat → List Int → List Int → Int → Int → Option (ByteArray × Bool)
 | 0, _, _, _, _ => none
 | k + 1, x6, x10, x11, x12 => if x12 < 8 then (if 0 ≤ x12 then (if x12 < (x6.length : Int) then (wicketref11_decoded.l4 k x6 x10 (wrap64 ((wrap64 (2 * x11)) + (rd x6 x12))) (wrap64 (x12 + 1))) else (none)) else (none)) else (if x10.length < 140737488355328 then (if 8 ≤ (x6.length : Int) then (wicketref11_decoded.l3 k (x6.drop (8 : Int).toNat) (x10 ++ [(x11) % 256])) else (none)) else (none))
def wicketref11_decoded.l5 : Nat → List Int → List Int → Int → Option (ByteArray × Bool)
 | 0, _, _, _ => none
 | k + 1, x6, x10, x13 => if x13 < (x6.length : Int) then (if 0 ≤ x13 then (if (rd x6 x13) = 0 then (wicketref11_decoded.l5 k x6 x10 (wrap64 (x13 + 1))) else (some ((⟨#[]⟩ : ByteArray), false))) else (none)) else (some (strOfNums x10, decide ((x6.length : Int) < 6)))
def wicketref11_decoded.l0 : Nat → ByteArray → Int → Option (ByteArray × Bool)
 | 0, _, _ => none
 | k + 1, x0, x4 => if x4 < 2 then (if x4 < (x0.size : Int) then (if 0 ≤ (wrap64 ((wrap64 ((x0.size : Int) - 1)) - x4)) then (if (wrap64 ((wrap64 ((x0.size : Int) - 1)) - x4)) < (x0.size : Int) then (if (bt x0 (wrap64 ((wrap64 ((x0.size : Int) - 1)) - x4))) = 61 then (wicketref11_decoded.l0 k x0 (wrap64 (x4 + 1))) else (wicketref11_decoded.j1 k x0 x4)) else (none)) else (none)) else (wicketref11_decoded.j1 k x0 x4)) else (wicketref11_decoded.j1 k x0 x4)
end
def wicketref11_decoded.f (k : Nat) (a0 : ByteArray) : Option (ByteArray × Bool) := if ((a0.size : Int) % 4) = 0 then (wicketref11_decoded.l0 k a0 0) else (some ((⟨#[]⟩ : ByteArray), false))
set_option maxHeartbeats 8000000 in
set_option maxRecDepth 100000 in
theorem wicketref11_decoded.calls (k : Nat) (a0 : ByteArray) (r1 : ByteArray) (r2 : Bool) (w : World) (h : wicketref11_decoded.f k a0 = some (r1, r2)) :
 Calls Tryz.prog 67 #[.string a0] w fun e w' => e = .returned (.tuple #[.string r1, .bool r2]) ∧ Below w.heap.size w w' := by
 have HB := Aside0.mk (Below.refl w.heap.size w)
 have H : (if ((a0.size : Int) % 4) = 0 then (wicketref11_decoded.l0 k a0 0) else (some ((⟨#[]⟩ : ByteArray), false))) = some (r1, r2) := h
 clear h
 by_cases c2 : ((a0.size : Int) % 4) = 0
 · rw [if_pos c2] at H
   have c2b0 : (((a0.size : Int) % 4) == 0) = true := beq_iff_eq.mpr c2
   have c2b1 : (((a0.size : Int) % 4) != 0) = false := bne_eq_false_iff_eq.mpr c2
   clear c2
   have HC3 := Aside0.mk H
   clear H
   go_enter Tryz.func67, Tryz.ntmps67
   go_upto_block 0 with (fail)
   go_cut [4] (fun v4 wc => ∃ (kq : Nat) (x4_2 : Int), v4 = .int .i64 x4_2 ∧ Aside0 (wicketref11_decoded.j1 kq a0 x4_2 = some (r1, r2)) ∧ Aside0 (kq ≤ k) ∧ Aside0 (Below w.heap.size w wc))
   case first =>
    have H := HC3.out
    clear HC3
    have H' := Aside0.mk H
    clear H
    go_wp2
    go_loopg [4] k (fun kq v4 w' => ∃ (x4_1 : Int), v4 = .int .i64 x4_1 ∧ Aside0 (wicketref11_decoded.l0 kq a0 x4_1 = some (r1, r2)) ∧ Aside0 (kq ≤ k) ∧ Aside0 (Below w.heap.size w w'))
    case atStart => exact ⟨(0), rfl, H', ⟨Nat.le_refl _⟩, ⟨HB.out⟩⟩
    case round =>
     clear H' c2b0 c2b1
     obtain ⟨x4_1, rfl, HA, HK1, HB⟩ := hrel
     cases gk with
     | zero => exact absurd HA.out (by simp [wicketref11_decoded.l0])
     | succ k1 =>
      have H := HA.out
      clear HA
      simp only [wicketref11_decoded.l0] at H
      by_cases c4 : x4_1 < 2
      · rw [if_pos c4] at H
        have c4b0 : decide (x4_1 < 2) = true := decide_eq_true c4
        clear c4
        by_cases c5 : x4_1 < (a0.size : Int)
        · rw [if_pos c5] at H
          have c5b0 : decide (x4_1 < (a0.size : Int)) = true := decide_eq_true c5
          clear c5
          obtain ⟨ji6, hji6⟩ : ∃ j_ : Int, (wrap64 ((wrap64 ((a0.size : Int) - 1)) - x4_1)) = j_ := ⟨_, rfl⟩
          replace H : (if 0 ≤ (ji6) then (if (ji6) < (a0.size : Int) then (if (bt a0 (ji6)) = 61 then (wicketref11_decoded.l0 k1 a0 (wrap64 (x4_1 + 1))) else (wicketref11_decoded.j1 k1 a0 x4_1)) else (none)) else (none)) = some (r1, r2) := by (rw [hji6] at H; exact H)
          have hji6w : (IntKind.i64.wrap ((wrap64 ((a0.size : Int) - 1)) - x4_1)) = ji6 := (i64_w _).trans hji6
          by_cases c7 : 0 ≤ (ji6)
          · rw [if_pos c7] at H
            have c7b0 : decide (0 ≤ (ji6)) = true := decide_eq_true c7
            clear c7
            by_cases c8 : (ji6) < (a0.size : Int)
            · rw [if_pos c8] at H
              have c8b0 : decide ((ji6) < (a0.size : Int)) = true := decide_eq_true c8
              clear c8
              by_cases c10 : (bt a0 (ji6)) = 61
              · rw [if_pos c10] at H
                have c10b0 : ((bt a0 (ji6)) == 61) = true := beq_iff_eq.mpr c10
                have c10b1 : ((bt a0 (ji6)) != 61) = false := bne_eq_false_iff_eq.mpr c10
                clear c10
                have H' := Aside0.mk H
                clear H
                have p9 : 0 ≤ ((ji6) : Int) := of_decide_eq_true (by assumption)
                have q9 : (ji6) < (a0.size : Int) := of_decide_eq_true (by assumption)
                have hx9 := bt_at a0 (ji6)
                replace p9 := eq_true p9
                replace q9 := eq_true q9
                go_wp2
                go_roundg k1
                case measure => have := HK1.out; omega
                case rel => exact ⟨(wrap64 (x4_1 + 1)), rfl, H', ⟨by have := HK1.out; omega⟩, ⟨HB.out⟩⟩
              · rw [if_neg c10] at H
                have c10b0 : ((bt a0 (ji6)) == 61) = false := beq_eq_false_iff_ne.mpr c10
                have c10b1 : ((bt a0 (ji6)) != 61) = true := bne_iff_ne.mpr c10
                have H' := Aside0.mk H
                clear H
                have p9 : 0 ≤ ((ji6) : Int) := of_decide_eq_true (by assumption)
                have q9 : (ji6) < (a0.size : Int) := of_decide_eq_true (by assumption)
                have hx9 := bt_at a0 (ji6)
                replace p9 := eq_true p9
                replace q9 := eq_true q9
                go_wp2
                go_meet
                case rel => exact ⟨_, (x4_1), rfl, H', ⟨by have := HK1.out; (omega)⟩, ⟨HB.out⟩⟩
            · rw [if_neg c8] at H
              exact absurd H (by simp)
          · rw [if_neg c7] at H
            exact absurd H (by simp)
        · rw [if_neg c5] at H
          have c5b0 : decide (x4_1 < (a0.size : Int)) = false := decide_eq_false c5
          clear c5
          have H' := Aside0.mk H
          clear H
          go_wp2
          go_meet
          case rel => exact ⟨_, (x4_1), rfl, H', ⟨by have := HK1.out; (omega)⟩, ⟨HB.out⟩⟩
      · rw [if_neg c4] at H
        have c4b0 : decide (x4_1 < 2) = false := decide_eq_false c4
        clear c4
        have H' := Aside0.mk H
        clear H
        go_wp2
        go_meet
        case rel => exact ⟨_, (x4_1), rfl, H', ⟨by have := HK1.out; (omega)⟩, ⟨HB.out⟩⟩
   case rest =>
    clear HC3 c2b0 c2b1
    obtain ⟨kq, x4_2, rfl, HA, HJ2, HB⟩ := hcut
    cases kq with
    | zero => exact absurd HA.out (by simp [wicketref11_decoded.j1])
    | succ kj2 =>
     have H := HA.out
     clear HA
     simp only [wicketref11_decoded.j1] at H
     have H' := Aside0.mk H
     clear H
     go_wp2
     go_loopg [6, 7] kj2 (fun kq v6 v7 w' => ∃ (x6_2 : List Int) (x7_2 : Int), v7 = .int .i64 x7_2 ∧ Aside0 (wicketref11_decoded.l1 kq a0 (wrap64 ((a0.size : Int) - x4_2)) x6_2 x7_2 = some (r1, r2)) ∧ Aside0 (kq ≤ kj2) ∧ Aside0 (Kd.Q (Kd.int .i64) 3 w' w.heap.size (fun _ => True) v6 x6_2) ∧ Aside0 (Below w.heap.size w w'))
     case atStart => exact ⟨(([] : List Int)), (0), rfl, H', ⟨Nat.le_refl _⟩, ⟨Kd.Q_of_R (by exact Kd.R_nil _ _ _ _ _)⟩, ⟨HB.out⟩⟩
     case round =>
      clear H'
      obtain ⟨x6_2, x7_2, rfl, HA, HK2, HO_6, HB⟩ := hrel
      cases gk with
      | zero => exact absurd HA.out (by simp [wicketref11_decoded.l1])
      | succ k2 =>
       have H := HA.out
       clear HA
       simp only [wicketref11_decoded.l1] at H
       by_cases c11 : x7_2 < (wrap64 ((a0.size : Int) - x4_2))
       · rw [if_pos c11] at H
         have c11b0 : decide (x7_2 < (wrap64 ((a0.size : Int) - x4_2))) = true := decide_eq_true c11
         clear c11
         by_cases c12 : 0 ≤ x7_2
         · rw [if_pos c12] at H
           have c12b0 : decide (0 ≤ x7_2) = true := decide_eq_true c12
           clear c12
           by_cases c13 : x7_2 < (a0.size : Int)
           · rw [if_pos c13] at H
             have c13b0 : decide (x7_2 < (a0.size : Int)) = true := decide_eq_true c13
             clear c13
             replace H := Option.bind_eq_some_iff.mp H
             obtain ⟨t432, A150, H⟩ := H
             replace H : (if t432 < 0 then (some ((⟨#[]⟩ : ByteArray), false)) else (wicketref11_decoded.l2 k2 a0 (wrap64 ((a0.size : Int) - x4_2)) x6_2 x7_2 t432 32)) = some (r1, r2) := H
             have A15 := Aside0.mk A150
             clear A150
             by_cases c16 : t432 < 0
             · rw [if_pos c16] at H
               have c16b0 : decide (t432 < 0) = true := decide_eq_true c16
               clear c16
               simp only [Option.some.injEq, Prod.mk.injEq] at H
               obtain ⟨rfl, rfl⟩ := H
               have p14 : 0 ≤ (x7_2 : Int) := of_decide_eq_true (by assumption)
               have q14 : x7_2 < (a0.size : Int) := of_decide_eq_true (by assumption)
               have hx14 := bt_at a0 x7_2
               replace p14 := eq_true p14
               replace q14 := eq_true q14
               go_wp2_with (first | ((with_reducible refine gate_callee (f := 107) rfl ?_); refine goesL_ (some 50) rfl rfl Tryz.func107 (by kernel_rfl) rfl #[.int .u8 (bt a0 x7_2)] rfl (by ((try simp only [List.map_toArray, List.map_cons, List.map_nil]); (rfl))) ?_; (with_reducible refine (wicketref11_six.calls k2 (bt a0 x7_2) t432 _ A15.out).mono ?_); rintro e w' ⟨rfl, ⟨nd, rfl⟩⟩; refine ⟨_, rfl, ?_⟩))
               go_ret2
               exact ⟨by (rfl), by (repeat (with_reducible first | exact HB.out | apply pw_below_drewN))⟩
             · rw [if_neg c16] at H
               have c16b0 : decide (t432 < 0) = false := decide_eq_false c16
               clear c16
               have H' := Aside0.mk H
               clear H
               have p14 : 0 ≤ (x7_2 : Int) := of_decide_eq_true (by assumption)
               have q14 : x7_2 < (a0.size : Int) := of_decide_eq_true (by assumption)
               have hx14 := bt_at a0 x7_2
               replace p14 := eq_true p14
               replace q14 := eq_true q14
               go_wp2_with (first | ((with_reducible refine gate_callee (f := 107) rfl ?_); refine goesL_ (some 50) rfl rfl Tryz.func107 (by kernel_rfl) rfl #[.int .u8 (bt a0 x7_2)] rfl (by ((try simp only [List.map_toArray, List.map_cons, List.map_nil]); (rfl))) ?_; (with_reducible refine (wicketref11_six.calls k2 (bt a0 x7_2) t432 _ A15.out).mono ?_); rintro e w' ⟨rfl, ⟨nd, rfl⟩⟩; refine ⟨_, rfl, ?_⟩))
               go_loopg [6, 9] k2 (fun kq v6 v9 w' => ∃ (x6_3 : List Int) (x9_3 : Int), v9 = .int .i64 x9_3 ∧ Aside0 (wicketref11_decoded.l2 kq a0 (wrap64 ((a0.size : Int) - x4_2)) x6_3 x7_2 t432 x9_3 = some (r1, r2)) ∧ Aside0 (kq ≤ k2) ∧ Aside0 (Kd.Q (Kd.int .i64) 3 w' w.heap.size (fun _ => True) v6 x6_3) ∧ Aside0 (Below w.heap.size w w'))
               case atStart => exact ⟨(x6_2), (32), rfl, H', ⟨Nat.le_refl _⟩, ⟨by ((with_reducible repeat (apply Kd.Q_drewN)); exact HO_6.out)⟩, ⟨by (repeat (with_reducible first | exact HB.out | apply pw_below_drewN))⟩⟩
               case round =>
                clear H' c11b0 c12b0 c13b0 p14 q14 hx14 c16b0
                obtain ⟨x6_3, x9_3, rfl, HA, HK3, HO_6, HB⟩ := hrel
                cases gk with
                | zero => exact absurd HA.out (by simp [wicketref11_decoded.l2])
                | succ k3 =>
                 have H := HA.out
                 clear HA
                 simp only [wicketref11_decoded.l2] at H
                 by_cases c17 : x9_3 > 0
                 · rw [if_pos c17] at H
                   have c17b0 : decide (0 < x9_3) = true := decide_eq_true c17
                   clear c17
                   by_cases c18 : x9_3 = 0
                   · rw [if_pos c18] at H
                     exact absurd H (by simp)
                   · rw [if_neg c18] at H
                     have c18b0 : (x9_3 == 0) = false := beq_eq_false_iff_ne.mpr c18
                     have c18b1 : (x9_3 != 0) = true := bne_iff_ne.mpr c18
                     by_cases c19 : x6_3.length < 17592186044416
                     · rw [if_pos c19] at H
                       have LMc19 := Aside0.mk c19
                       clear c19
                       obtain ⟨y433, hy433⟩ : ∃ y_ : List Int, y_ = (x6_3 ++ [Int.tmod (wrap64 (Int.tdiv t432 x9_3)) 2]) := ⟨_, rfl⟩
                       replace H : (wicketref11_decoded.l2 k3 a0 (wrap64 ((a0.size : Int) - x4_2)) y433 x7_2 t432 (wrap64 (Int.tdiv x9_3 2))) = some (r1, r2) := by (rw [hy433]; with_reducible exact H)
                       have Ny433 := Aside0.mk hy433
                       clear hy433
                       have H' := Aside0.mk H
                       clear H
                       go_wp2_with (first | ((with_reducible refine gate_builtin (b := .append) (xs := #[.tmp 57, .tmp 62]) rfl ?_); (try (refine gate_guard rfl ?_; dsimp only)); at_builtin; refine Kd.Q_append (Kd.int .i64) (w0 := w) w.heap.size rfl (.tmp 57) (.tmp 62) 122 3 (.int .i64 0) 8 rfl Tryz.underlying122 info3 rfl (by decide) (by omega) u6 x6_3 (Int.tmod (wrap64 (Int.tdiv t432 x9_3)) 2) [.int .i64 (Int.tmod (wrap64 (Int.tdiv t432 x9_3)) 2)] (fun _ => True) (fun _ => False) rfl rfl ?aP (fun _ hk => hk.elim) ?aF ?aO ?aB ?aS ?aL ?_; (case aP => exact rfl); (case aB => exact HB.out); (case aF => exact (fun _ _ => trivial)); (case aO => exact HO_6.out); (case aS => exact (below_size HB.out)); (case aL => have := LMc19.out; omega); intro v434 w20 ho hb hg hat; rw [← Ny433.out] at ho; have n0_ := Aside0.mk hb; have n1_ := Aside0.mk ho; clear HB HO_6; have HB := n0_; have HO435 := n1_; clear n0_ n1_; clear ho hb hg hat))
                       go_roundg k3
                       case measure => have := HJ2.out; have := HK2.out; have := HK3.out; omega
                       case rel => exact ⟨(y433), (wrap64 (Int.tdiv x9_3 2)), rfl, H', ⟨by have := HJ2.out; have := HK2.out; have := HK3.out; omega⟩, ⟨HO435.out⟩, ⟨HB.out⟩⟩
                     · rw [if_neg c19] at H
                       exact absurd H (by simp)
                 · rw [if_neg c17] at H
                   have c17b0 : decide (0 < x9_3) = false := decide_eq_false c17
                   clear c17
                   have H' := Aside0.mk H
                   clear H
                   go_wp2
                   go_roundg k3
                   case measure => have := HJ2.out; have := HK2.out; have := HK3.out; omega
                   case rel => exact ⟨(x6_3), (wrap64 (x7_2 + 1)), rfl, H', ⟨by have := HJ2.out; have := HK2.out; have := HK3.out; omega⟩, ⟨HO_6.out⟩, ⟨HB.out⟩⟩
           · rw [if_neg c13] at H
             exact absurd H (by simp)
         · rw [if_neg c12] at H
           exact absurd H (by simp)
       · rw [if_neg c11] at H
         have c11b0 : decide (x7_2 < (wrap64 ((a0.size : Int) - x4_2))) = false := decide_eq_false c11
         clear c11
         have H' := Aside0.mk H
         clear H
         go_wp2
         go_loopg [6, 10] k2 (fun kq v6 v10 w' => ∃ (x6_3 : List Int) (x10_3 : List Int), Aside0 (wicketref11_decoded.l3 kq x6_3 x10_3 = some (r1, r2)) ∧ Aside0 (kq ≤ k2) ∧ Aside0 (Kd.Q (Kd.int .i64) 3 w' w.heap.size (fun _ => True) v6 x6_3) ∧ Aside0 (Kd.R (Kd.int .u8) 5 w' w.heap.size (fun _ => True) v10 x10_3) ∧ Aside0 (Below w.heap.size w w'))
         case atStart => exact ⟨(x6_2), (([] : List Int)), H', ⟨Nat.le_refl _⟩, ⟨HO_6.out⟩, ⟨by (exact Kd.R_nil _ _ _ _ _)⟩, ⟨HB.out⟩⟩
         case round =>
          clear H' c11b0
          obtain ⟨x6_3, x10_3, HA, HK3, HO_6, HO_10, HB⟩ := hrel
          cases gk with
          | zero => exact absurd HA.out (by simp [wicketref11_decoded.l3])
          | succ k3 =>
           have H := HA.out
           clear HA
           simp only [wicketref11_decoded.l3] at H
           by_cases c21 : (x6_3.length : Int) ≥ 8
           · rw [if_pos c21] at H
             have c21b0 : decide (8 ≤ (x6_3.length : Int)) = true := decide_eq_true c21
             have c21b1 : decide (8 ≤ x6_3.length) = true := decide_eq_true (by omega)
             clear c21
             have H' := Aside0.mk H
             clear H
             obtain ⟨Ao22, co22, eo22, _⟩ := Kd.Q_slice HO_6.out
             subst eo22
             go_wp2
             go_loopg [11, 12] k3 (fun kq v11 v12 w' => ∃ (x11_4 : Int) (x12_4 : Int), v11 = .int .i64 x11_4 ∧ v12 = .int .i64 x12_4 ∧ Aside0 (wicketref11_decoded.l4 kq x6_3 x10_3 x11_4 x12_4 = some (r1, r2)) ∧ Aside0 (kq ≤ k3) ∧ Aside0 (Kd.Q (Kd.int .i64) 3 w' w.heap.size (fun _ => True) (.slice Ao22 x6_3.length co22) x6_3) ∧ Aside0 (Kd.R (Kd.int .u8) 5 w' w.heap.size (fun _ => True) u10 x10_3) ∧ Aside0 (Below w.heap.size w w'))
             case atStart => exact ⟨(0), (0), rfl, rfl, H', ⟨Nat.le_refl _⟩, ⟨HO_6.out⟩, ⟨HO_10.out⟩, ⟨HB.out⟩⟩
             case round =>
              clear H' c21b0 c21b1
              obtain ⟨x11_4, x12_4, rfl, rfl, HA, HK4, HO_6, HO_10, HB⟩ := hrel
              cases gk with
              | zero => exact absurd HA.out (by simp [wicketref11_decoded.l4])
              | succ k4 =>
               have H := HA.out
               clear HA
               simp only [wicketref11_decoded.l4] at H
               by_cases c23 : x12_4 < 8
               · rw [if_pos c23] at H
                 have c23b0 : decide (x12_4 < 8) = true := decide_eq_true c23
                 clear c23
                 by_cases c24 : 0 ≤ x12_4
                 · rw [if_pos c24] at H
                   have c24b0 : decide (0 ≤ x12_4) = true := decide_eq_true c24
                   clear c24
                   by_cases c25 : x12_4 < (x6_3.length : Int)
                   · rw [if_pos c25] at H
                     have c25b0 : decide (x12_4 < (x6_3.length : Int)) = true := decide_eq_true c25
                     clear c25
                     have H' := Aside0.mk H
                     clear H
                     have p436 : 0 ≤ (x12_4 : Int) := of_decide_eq_true (by assumption)
                     have q436 : x12_4 < (x6_3.length : Int) := of_decide_eq_true (by assumption)
                     obtain ⟨ad436, e436, hx436_0⟩ := Kd.at_int (Kd.Q_reads' HO_6.out).2.2 x12_4 p436 q436
                     cases e436
                     replace p436 := eq_true p436
                     replace q436 := eq_true q436
                     go_wp2
                     go_roundg k4
                     case measure => have := HJ2.out; have := HK2.out; have := HK3.out; have := HK4.out; omega
                     case rel => exact ⟨(wrap64 ((wrap64 (2 * x11_4)) + (rd x6_3 x12_4))), (wrap64 (x12_4 + 1)), rfl, rfl, H', ⟨by have := HJ2.out; have := HK2.out; have := HK3.out; have := HK4.out; omega⟩, ⟨HO_6.out⟩, ⟨HO_10.out⟩, ⟨HB.out⟩⟩
                   · rw [if_neg c25] at H
                     exact absurd H (by simp)
                 · rw [if_neg c24] at H
                   exact absurd H (by simp)
               · rw [if_neg c23] at H
                 have c23b0 : decide (x12_4 < 8) = false := decide_eq_false c23
                 clear c23
                 by_cases c26 : x10_3.length < 140737488355328
                 · rw [if_pos c26] at H
                   have LMc26 := Aside0.mk c26
                   clear c26
                   obtain ⟨y437, hy437⟩ : ∃ y_ : List Int, y_ = (x10_3 ++ [(x11_4) % 256]) := ⟨_, rfl⟩
                   replace H : (if 8 ≤ (x6_3.length : Int) then (wicketref11_decoded.l3 k4 (x6_3.drop (8 : Int).toNat) y437) else (none)) = some (r1, r2) := by (rw [hy437]; with_reducible exact H)
                   have Ny437 := Aside0.mk hy437
                   clear hy437
                   by_cases c27 : 8 ≤ (x6_3.length : Int)
                   · rw [if_pos c27] at H
                     have c27b0 := eq_true c27
                     have c27b1 : decide (8 ≤ (x6_3.length : Int)) = true := decide_eq_true c27
                     clear c27
                     obtain ⟨y440, hy440⟩ : ∃ y_ : List Int, y_ = (x6_3.drop (8 : Int).toNat) := ⟨_, rfl⟩
                     replace H : (wicketref11_decoded.l3 k4 y440 y437) = some (r1, r2) := by (rw [hy440]; with_reducible exact H)
                     have Ny440 := Aside0.mk hy440
                     clear hy440
                     have H' := Aside0.mk H
                     clear H
                     go_wp2_with (first | ((with_reducible refine gate_builtin (b := .append) (xs := #[.tmp 78, .tmp 81]) rfl ?_); (try (refine gate_guard rfl ?_; dsimp only)); at_builtin; refine Kd.R_append (Kd.int .u8) (w0 := w) w.heap.size rfl (.tmp 78) (.tmp 81) 79 5 (.int .u8 0) 1 rfl Tryz.underlying79 info5 rfl (by decide) (by omega) u10 x10_3 ((x11_4) % 256) [.int .u8 ((x11_4) % 256)] (fun _ => True) (fun _ => False) rfl rfl ?aP (fun _ hk => hk.elim) ?aF ?aO ?aB ?aS ?aL ?_; (case aP => exact rfl); (case aB => exact HB.out); (case aF => exact (fun _ _ => trivial)); (case aO => exact HO_10.out); (case aS => exact (below_size HB.out)); (case aL => have := LMc26.out; omega); intro v438 w28 ho hb hg hat; rw [← Ny437.out] at ho; have n0_ := Aside0.mk (Kd.Q_over' HO_6.out (Kd.R_typed HO_10.out) (by decide) hg); have n1_ := Aside0.mk hb; have n2_ := Aside0.mk ho; clear HO_6 HB HO_10; have HO_6 := n0_; have HB := n1_; have HO439 := n2_; clear n0_ n1_ n2_; clear ho hb hg hat; have q29 : (8 : Int) ≤ ((x6_3.length : Int) : Int) := of_decide_eq_true (by assumption); obtain ⟨i029, hi029, _, hsz29, _⟩ := info_parts info3; have hcut29 := cut_from (P := Tryz.prog) 122 3 .i64 Tryz.underlying122 hi029 1 hsz29 Ao22 x6_3.length co22 8 (by omega) q29; have hr29 := Kd.Q_drop (k := (8 : Int).toNat) HO_6.out (by omega); obtain ⟨A29, hA29⟩ : ∃ A1, A1 = (if co22 = (8 : Int).toNat then Ao22 else (Ao22 : Option Addr).map (·.add ((8 : Int).toNat * 1))) := ⟨_, rfl⟩; obtain ⟨c29, hc29⟩ : ∃ c1, c1 = co22 - (8 : Int).toNat := ⟨_, rfl⟩; have hy29 : y440.length = x6_3.length - (8 : Int).toNat := (by rw [Ny440.out, List.length_drop]); rw [← Ny440.out] at hr29; rw [← hy29, ← hA29, ← hc29] at hcut29; replace hr29 : Kd.Q (Kd.int .i64) 3 w28 w.heap.size (fun _ => True) (.slice A29 y440.length c29) y440 := (by rw [hA29, hc29, hy29]; exact hr29); have HE29 : Aside0 ((Value.slice A29 y440.length c29).ownBlock = (.slice Ao22 x6_3.length co22 : Value).ownBlock) := ⟨by rw [hA29]; split <;> (cases (Ao22 : Option Addr) <;> rfl)⟩; clear hy29 hi029 hsz29 HO_6 hA29 hc29; have HO442 := Aside0.mk hr29; clear hr29; replace q29 := eq_true q29))
                     go_roundg k4
                     case measure => have := HJ2.out; have := HK2.out; have := HK3.out; have := HK4.out; omega
                     case rel => exact ⟨(y440), (y437), H', ⟨by have := HJ2.out; have := HK2.out; have := HK3.out; have := HK4.out; omega⟩, ⟨HO442.out⟩, ⟨HO439.out⟩, ⟨HB.out⟩⟩
                   · rw [if_neg c27] at H
                     exact absurd H (by simp)
                 · rw [if_neg c26] at H
                   exact absurd H (by simp)
           · rw [if_neg c21] at H
             have c21b0 : decide (8 ≤ (x6_3.length : Int)) = false := decide_eq_false c21
             have c21b1 : decide (8 ≤ x6_3.length) = false := decide_eq_false (by omega)
             clear c21
             have H' := Aside0.mk H
             clear H
             obtain ⟨Ao30, co30, eo30, _⟩ := Kd.Q_slice HO_6.out
             subst eo30
             go_wp2
             go_loopg [13] k3 (fun kq v13 w' => ∃ (x13_4 : Int), v13 = .int .i64 x13_4 ∧ Aside0 (wicketref11_decoded.l5 kq x6_3 x10_3 x13_4 = some (r1, r2)) ∧ Aside0 (kq ≤ k3) ∧ Aside0 (Kd.Q (Kd.int .i64) 3 w' w.heap.size (fun _ => True) (.slice Ao30 x6_3.length co30) x6_3) ∧ Aside0 (Kd.R (Kd.int .u8) 5 w' w.heap.size (fun _ => True) u10 x10_3) ∧ Aside0 (Below w.heap.size w w'))
             case atStart => exact ⟨(0), rfl, H', ⟨Nat.le_refl _⟩, ⟨HO_6.out⟩, ⟨HO_10.out⟩, ⟨HB.out⟩⟩
             case round =>
              clear H' c21b0 c21b1
              obtain ⟨x13_4, rfl, HA, HK4, HO_6, HO_10, HB⟩ := hrel
              cases gk with
              | zero => exact absurd HA.out (by simp [wicketref11_decoded.l5])
              | succ k4 =>
               have H := HA.out
               clear HA
               simp only [wicketref11_decoded.l5] at H
               by_cases c31 : x13_4 < (x6_3.length : Int)
               · rw [if_pos c31] at H
                 have c31b0 : decide (x13_4 < (x6_3.length : Int)) = true := decide_eq_true c31
                 clear c31
                 by_cases c32 : 0 ≤ x13_4
                 · rw [if_pos c32] at H
                   have c32b0 : decide (0 ≤ x13_4) = true := decide_eq_true c32
                   clear c32
                   by_cases c33 : (rd x6_3 x13_4) = 0
                   · rw [if_pos c33] at H
                     have c33b0 : ((rd x6_3 x13_4) == 0) = true := beq_iff_eq.mpr c33
                     have c33b1 : ((rd x6_3 x13_4) != 0) = false := bne_eq_false_iff_eq.mpr c33
                     clear c33
                     have H' := Aside0.mk H
                     clear H
                     have p443 : 0 ≤ (x13_4 : Int) := of_decide_eq_true (by assumption)
                     have q443 : x13_4 < (x6_3.length : Int) := of_decide_eq_true (by assumption)
                     obtain ⟨ad443, e443, hx443_0⟩ := Kd.at_int (Kd.Q_reads' HO_6.out).2.2 x13_4 p443 q443
                     cases e443
                     replace p443 := eq_true p443
                     replace q443 := eq_true q443
                     go_wp2
                     go_roundg k4
                     case measure => have := HJ2.out; have := HK2.out; have := HK3.out; have := HK4.out; omega
                     case rel => exact ⟨(wrap64 (x13_4 + 1)), rfl, H', ⟨by have := HJ2.out; have := HK2.out; have := HK3.out; have := HK4.out; omega⟩, ⟨HO_6.out⟩, ⟨HO_10.out⟩, ⟨HB.out⟩⟩
                   · rw [if_neg c33] at H
                     have c33b0 : ((rd x6_3 x13_4) == 0) = false := beq_eq_false_iff_ne.mpr c33
                     have c33b1 : ((rd x6_3 x13_4) != 0) = true := bne_iff_ne.mpr c33
                     simp only [Option.some.injEq, Prod.mk.injEq] at H
                     obtain ⟨rfl, rfl⟩ := H
                     have p443 : 0 ≤ (x13_4 : Int) := of_decide_eq_true (by assumption)
                     have q443 : x13_4 < (x6_3.length : Int) := of_decide_eq_true (by assumption)
                     obtain ⟨ad443, e443, hx443_0⟩ := Kd.at_int (Kd.Q_reads' HO_6.out).2.2 x13_4 p443 q443
                     cases e443
                     replace p443 := eq_true p443
                     replace q443 := eq_true q443
                     go_wp2
                     go_ret2
                     exact ⟨by (rfl), by (with_reducible exact HB.out)⟩
                 · rw [if_neg c32] at H
                   exact absurd H (by simp)
               · rw [if_neg c31] at H
                 have c31b0 : decide (x13_4 < (x6_3.length : Int)) = false := decide_eq_false c31
                 clear c31
                 simp only [Option.some.injEq, Prod.mk.injEq] at H
                 obtain ⟨rfl, rfl⟩ := H
                 have hcv34 := own_string (P := Tryz.prog) Tryz.underlying79 Tryz.underlying5 Tryz.underlying9 (Kd.own_of_R HO_10.out)
                 go_wp2
                 go_ret2
                 exact ⟨by (rfl), by (with_reducible exact HB.out)⟩
 · rw [if_neg c2] at H
   have c2b0 : (((a0.size : Int) % 4) == 0) = false := beq_eq_false_iff_ne.mpr c2
   have c2b1 : (((a0.size : Int) % 4) != 0) = true := bne_iff_ne.mpr c2
   simp only [Option.some.injEq, Prod.mk.injEq] at H
   obtain ⟨rfl, rfl⟩ := H
   go_enter Tryz.func67, Tryz.ntmps67
   go_wp2
   go_ret2
   exact ⟨by (rfl), by (with_reducible exact HB.out)⟩
end Go.Proofs.YtmimipgmhgalaaaGreatDoor.PAll
end
section
namespace Go.Proofs.YtmimipgmhgalaaaGreatDoor.PAll
open Go.RowKit Go.Proofs.YtmimipgmhgalaaaGreatDoorW.PrintWords Go.Proofs.YtmimipgmhgalaaaGreatDoorW.PrintLast Go.Proofs.YtmimipgmhgalaaaGreatDoorW.PrintMore
attribute [local go_sem] max2_int min2_int max_two min_two max_three min_three max_four min_four
set_option linter.unusedVariables false
set_option linter.unusedSimpArgs false
mutual
def wicketref11_Basic.j0 : Nat → ByteArray → ByteArray → Bool → Option (ByteArray × ByteArray × Int)
 | 0, _, _, _ => none
 | k + 1, x0, x5, x25 => if x25 = true then (some ((⟨#[]⟩ : ByteArray), (⟨#[]⟩ : ByteArray), 113)) else (wicketref11_Basic.l0 k x0 x5 0)
def wicketref11_Basic.l0 : Nat → ByteArray → ByteArray → Int → Option (ByteArray × ByteArray × Int)
 | 0, _, _, _ => none
 | k + 1, x0, x5, x6 => if x6 < 5 then (if 0 ≤ x6 then (if x6 < (x0.size : Int) then (if (bt x0 x6) ≥ 65 then (wicketref11_Basic.j2 k x0 x5 x6 (bt x0 x6) (decide ((bt x0 x6) ≤ 90))) else (wicketref11_Basic.j2 k x0 x5 x6 (bt x0 x6) false)) else (none)) else (none)) else (wicketref11_Basic.l1 k x0 5)
def wicketref11_Basic.j2 : Nat → ByteArray → ByteArray → Int → Int → Bool → Option (ByteArray × ByteArray × Int)
 | 0, _, _, _, _, _ => none
 | k + 1, x0, x5, x6, x7, x38 => if x38 = true then (if 0 ≤ x6 then (if x6 < (x5.size : Int) then (if ((((x7 - 65) % 256) + 97) % 256) = (bt x5 x6) then (wicketref11_Basic.l0 k x0 x5 (wrap64 (x6 + 1))) else (some ((⟨#[]⟩ : ByteArray), (⟨#[]⟩ : ByteArray), 113))) else (none)) else (none)) else (if 0 ≤ x6 then (if x6 < (x5.size : Int) then (if x7 = (bt x5 x6) then (wicketref11_Basic.l0 k x0 x5 (wrap64 (x6 + 1))) else (some ((⟨#[]⟩ : ByteArray), (⟨#[]⟩ : ByteArray), 113))) else (none)) else (none))
def wicketref11_Basic.j4 : Nat → ByteArray → Int → Option (ByteArray × ByteArray × Int)
 | 0, _, _ => none
 | k + 1, x0, x8 => if 0 ≤ x8 then (if x8 ≤ (x0.size : Int) then ((wicketref11_decoded.f k (x0.extract (x8 : Int).toNat x0.size)).bind fun bt444 => (if x8 = 5 then (wicketref11_Basic.j5 k bt444.1 true) else (wicketref11_Basic.j5 k bt444.1 (!bt444.2)))) else (none)) else (none)
def wicketref11_Basic.j5 : Nat → ByteArray → Bool → Option (ByteArray × ByteArray × Int)
 | 0, _, _ => none
 | k + 1, x9, x71 => if x71 = true then (some ((⟨#[]⟩ : ByteArray), (⟨#[]⟩ : ByteArray), 113)) else (wicketref11_Basic.l2 k x9 0)
def wicketref11_Basic.j7 : Nat → ByteArray → Int → Option (ByteArray × ByteArray × Int)
 | 0, _, _ => none
 | k + 1, x9, x11 => if x11 = (x9.size : Int) then (some ((⟨#[]⟩ : ByteArray), (⟨#[]⟩ : ByteArray), 113)) else (if 0 ≤ x11 then (if x11 ≤ (x9.size : Int) then ((wicketref03_Unescape.f k (x9.extract 0 (x11 : Int).toNat)).bind fun bt446 => (if 0 ≤ (wrap64 (x11 + 1)) then (if (wrap64 (x11 + 1)) ≤ (x9.size : Int) then ((wicketref03_Unescape.f k (x9.extract ((wrap64 (x11 + 1)) : Int).toNat x9.size)).bind fun bt449 => (if bt446.2.1 = 0 then (if bt449.2.1 = 0 then (some (bt446.1, bt449.1, 0)) else (some ((⟨#[]⟩ : ByteArray), (⟨#[]⟩ : ByteArray), 113))) else (some ((⟨#[]⟩ : ByteArray), (⟨#[]⟩ : ByteArray), 113)))) else (none)) else (none))) else (none)) else (none))
def wicketref11_Basic.l2 : Nat → ByteArray → Int → Option (ByteArray × ByteArray × Int)
 | 0, _, _ => none
 | k + 1, x9, x11 => if x11 < (x9.size : Int) then (if 0 ≤ x11 then (if (bt x9 x11) = 58 then (wicketref11_Basic.j7 k x9 x11) else (wicketref11_Basic.l2 k x9 (wrap64 (x11 + 1)))) else (none)) else (wicketref11_Basic.j7 k x9 x11)
def wicketref11_Basic.l1 : Nat → ByteArray → Int → Option (ByteArray × ByteArray × Int)
 | 0, _, _ => none
 | k + 1, x0, x8 => if x8 < (x0.size : Int) then (if 0 ≤ x8 then (if (bt x0 x8) = 32 then (wicketref11_Basic.l1 k x0 (wrap64 (x8 + 1))) else (wicketref11_Basic.j4 k x0 x8)) else (none)) else (wicketref11_Basic.j4 k x0 x8)
end
def wicketref11_Basic.f (k : Nat) (a0 : ByteArray) : Option (ByteArray × ByteArray × Int) := if (a0.size : Int) > 1024 then (wicketref11_Basic.j0 k a0 (⟨#[98, 97, 115, 105, 99]⟩ : ByteArray) true) else (wicketref11_Basic.j0 k a0 (⟨#[98, 97, 115, 105, 99]⟩ : ByteArray) (decide ((a0.size : Int) < 6)))
set_option maxHeartbeats 8000000 in
set_option maxRecDepth 100000 in
theorem wicketref11_Basic.calls (k : Nat) (a0 : ByteArray) (r1 : ByteArray) (r2 : ByteArray) (r3 : Int) (w : World) (h : wicketref11_Basic.f k a0 = some (r1, r2, r3)) :
 Calls Tryz.prog 33 #[.string a0] w fun e w' => e = .returned (.tuple #[.string r1, .string r2, .int .i64 r3]) ∧ Below w.heap.size w w' := by
 have HB := Aside0.mk (Below.refl w.heap.size w)
 have H : (if (a0.size : Int) > 1024 then (wicketref11_Basic.j0 k a0 (⟨#[98, 97, 115, 105, 99]⟩ : ByteArray) true) else (wicketref11_Basic.j0 k a0 (⟨#[98, 97, 115, 105, 99]⟩ : ByteArray) (decide ((a0.size : Int) < 6)))) = some (r1, r2, r3) := h
 clear h
 have HC2 := Aside0.mk H
 clear H
 go_enter Tryz.func33, Tryz.ntmps33
 go_upto_region 2 with (fail)
 go_cut [25] (fun v25 wc => ∃ (kq : Nat) (x25_1 : Bool), v25 = .bool x25_1 ∧ Aside0 (wicketref11_Basic.j0 kq a0 (⟨#[98, 97, 115, 105, 99]⟩ : ByteArray) x25_1 = some (r1, r2, r3)) ∧ Aside0 (kq ≤ k) ∧ Aside0 (Below w.heap.size w wc))
 case first =>
  have H := HC2.out
  clear HC2
  by_cases c3 : (a0.size : Int) > 1024
  · rw [if_pos c3] at H
    have c3b0 : decide (1024 < (a0.size : Int)) = true := decide_eq_true c3
    have c3b1 : decide (1024 < a0.size) = true := decide_eq_true (by omega)
    clear c3
    have H' := Aside0.mk H
    clear H
    go_wp2
    go_meet
    case rel => exact ⟨_, (true), rfl, H', ⟨by (omega)⟩, ⟨HB.out⟩⟩
  · rw [if_neg c3] at H
    have c3b0 : decide (1024 < (a0.size : Int)) = false := decide_eq_false c3
    have c3b1 : decide (1024 < a0.size) = false := decide_eq_false (by omega)
    clear c3
    have H' := Aside0.mk H
    clear H
    go_wp2
    go_meet
    case rel => exact ⟨_, (decide ((a0.size : Int) < 6)), rfl, H', ⟨by (omega)⟩, ⟨HB.out⟩⟩
 case rest =>
  clear HC2
  obtain ⟨kq, x25_1, rfl, HA, HJ1, HB⟩ := hcut
  cases kq with
  | zero => exact absurd HA.out (by simp [wicketref11_Basic.j0])
  | succ kj1 =>
   have H := HA.out
   clear HA
   simp only [wicketref11_Basic.j0] at H
   by_cases c4 : x25_1 = true
   · subst c4
     have H1 : (some ((⟨#[]⟩ : ByteArray), (⟨#[]⟩ : ByteArray), 113)) = some (r1, r2, r3) := by rw [if_pos rfl] at H; exact H
     clear H
     have H := H1
     clear H1
     simp only [Option.some.injEq, Prod.mk.injEq] at H
     obtain ⟨rfl, rfl, rfl⟩ := H
     go_wp2
     go_ret3
     exact ⟨by (rfl), by (with_reducible exact HB.out)⟩
   · replace c4 := Bool.eq_false_iff.mpr c4
     subst c4
     have H1 : (wicketref11_Basic.l0 kj1 a0 (⟨#[98, 97, 115, 105, 99]⟩ : ByteArray) 0) = some (r1, r2, r3) := by rw [if_neg (show ¬ (false = true) by decide)] at H; exact H
     clear H
     have H := H1
     clear H1
     have H' := Aside0.mk H
     clear H
     go_wp2
     go_loopg [6] kj1 (fun kq v6 w' => ∃ (x6_2 : Int), v6 = .int .i64 x6_2 ∧ Aside0 (wicketref11_Basic.l0 kq a0 (⟨#[98, 97, 115, 105, 99]⟩ : ByteArray) x6_2 = some (r1, r2, r3)) ∧ Aside0 (kq ≤ kj1) ∧ Aside0 (Below w.heap.size w w'))
     case atStart => exact ⟨(0), rfl, H', ⟨Nat.le_refl _⟩, ⟨HB.out⟩⟩
     case round =>
      clear H'
      obtain ⟨x6_2, rfl, HA, HK2, HB⟩ := hrel
      cases gk with
      | zero => exact absurd HA.out (by simp [wicketref11_Basic.l0])
      | succ k2 =>
       have H := HA.out
       clear HA
       simp only [wicketref11_Basic.l0] at H
       by_cases c5 : x6_2 < 5
       · rw [if_pos c5] at H
         have c5b0 : decide (x6_2 < 5) = true := decide_eq_true c5
         clear c5
         by_cases c6 : 0 ≤ x6_2
         · rw [if_pos c6] at H
           have c6b0 : decide (0 ≤ x6_2) = true := decide_eq_true c6
           clear c6
           by_cases c7 : x6_2 < (a0.size : Int)
           · rw [if_pos c7] at H
             have c7b0 : decide (x6_2 < (a0.size : Int)) = true := decide_eq_true c7
             clear c7
             have HC9 := Aside0.mk H
             clear H
             have p8 : 0 ≤ (x6_2 : Int) := of_decide_eq_true (by assumption)
             have q8 : x6_2 < (a0.size : Int) := of_decide_eq_true (by assumption)
             have hx8 := bt_at a0 x6_2
             replace p8 := eq_true p8
             replace q8 := eq_true q8
             go_upto_region 8 with (fail)
             go_cut [38] (fun v38 wc => ∃ (kq : Nat) (x38_8 : Bool), v38 = .bool x38_8 ∧ Aside0 (wicketref11_Basic.j2 kq a0 (⟨#[98, 97, 115, 105, 99]⟩ : ByteArray) x6_2 (bt a0 x6_2) x38_8 = some (r1, r2, r3)) ∧ Aside0 (kq ≤ k2) ∧ Aside0 (Below w.heap.size w wc))
             case first =>
              have H := HC9.out
              clear HC9
              by_cases c10 : (bt a0 x6_2) ≥ 65
              · rw [if_pos c10] at H
                have c10b0 : decide (65 ≤ (bt a0 x6_2)) = true := decide_eq_true c10
                clear c10
                have H' := Aside0.mk H
                clear H
                go_wp2
                go_meet
                case rel => exact ⟨_, (decide ((bt a0 x6_2) ≤ 90)), rfl, H', ⟨by have := HJ1.out; have := HK2.out; (omega)⟩, ⟨HB.out⟩⟩
              · rw [if_neg c10] at H
                have c10b0 : decide (65 ≤ (bt a0 x6_2)) = false := decide_eq_false c10
                clear c10
                have H' := Aside0.mk H
                clear H
                go_wp2
                go_meet
                case rel => exact ⟨_, (false), rfl, H', ⟨by have := HJ1.out; have := HK2.out; (omega)⟩, ⟨HB.out⟩⟩
             case rest =>
              clear HC9 c5b0 c6b0 c7b0 p8 q8 hx8
              obtain ⟨kq, x38_8, rfl, HA, HJ8, HB⟩ := hcut
              cases kq with
              | zero => exact absurd HA.out (by simp [wicketref11_Basic.j2])
              | succ kj8 =>
               have H := HA.out
               clear HA
               simp only [wicketref11_Basic.j2] at H
               by_cases c11 : x38_8 = true
               · subst c11
                 have H1 : (if 0 ≤ x6_2 then (if x6_2 < ((⟨#[98, 97, 115, 105, 99]⟩ : ByteArray).size : Int) then (if (((((bt a0 x6_2) - 65) % 256) + 97) % 256) = (bt (⟨#[98, 97, 115, 105, 99]⟩ : ByteArray) x6_2) then (wicketref11_Basic.l0 kj8 a0 (⟨#[98, 97, 115, 105, 99]⟩ : ByteArray) (wrap64 (x6_2 + 1))) else (some ((⟨#[]⟩ : ByteArray), (⟨#[]⟩ : ByteArray), 113))) else (none)) else (none)) = some (r1, r2, r3) := by rw [if_pos rfl] at H; exact H
                 clear H
                 have H := H1
                 clear H1
                 by_cases c12 : 0 ≤ x6_2
                 · rw [if_pos c12] at H
                   have c12b0 : decide (0 ≤ x6_2) = true := decide_eq_true c12
                   clear c12
                   by_cases c13 : x6_2 < ((⟨#[98, 97, 115, 105, 99]⟩ : ByteArray).size : Int)
                   · rw [if_pos c13] at H
                     have c13b0 : decide (x6_2 < ((⟨#[98, 97, 115, 105, 99]⟩ : ByteArray).size : Int)) = true := decide_eq_true c13
                     clear c13
                     by_cases c15 : (((((bt a0 x6_2) - 65) % 256) + 97) % 256) = (bt (⟨#[98, 97, 115, 105, 99]⟩ : ByteArray) x6_2)
                     · rw [if_pos c15] at H
                       have c15b0 : ((((((bt a0 x6_2) - 65) % 256) + 97) % 256) == (bt (⟨#[98, 97, 115, 105, 99]⟩ : ByteArray) x6_2)) = true := beq_iff_eq.mpr c15
                       have c15b1 : ((((((bt a0 x6_2) - 65) % 256) + 97) % 256) != (bt (⟨#[98, 97, 115, 105, 99]⟩ : ByteArray) x6_2)) = false := bne_eq_false_iff_eq.mpr c15
                       clear c15
                       have H' := Aside0.mk H
                       clear H
                       have p14 : 0 ≤ (x6_2 : Int) := of_decide_eq_true (by assumption)
                       have q14 : x6_2 < (5 : Int) := of_decide_eq_true (by assumption)
                       have hx14 := bt_at (⟨#[98, 97, 115, 105, 99]⟩ : ByteArray) x6_2
                       replace p14 := eq_true p14
                       replace q14 := eq_true q14
                       go_wp2
                       go_roundg kj8
                       case measure => have := HJ1.out; have := HK2.out; have := HJ8.out; omega
                       case rel => exact ⟨(wrap64 (x6_2 + 1)), rfl, H', ⟨by have := HJ1.out; have := HK2.out; have := HJ8.out; omega⟩, ⟨HB.out⟩⟩
                     · rw [if_neg c15] at H
                       have c15b0 : ((((((bt a0 x6_2) - 65) % 256) + 97) % 256) == (bt (⟨#[98, 97, 115, 105, 99]⟩ : ByteArray) x6_2)) = false := beq_eq_false_iff_ne.mpr c15
                       have c15b1 : ((((((bt a0 x6_2) - 65) % 256) + 97) % 256) != (bt (⟨#[98, 97, 115, 105, 99]⟩ : ByteArray) x6_2)) = true := bne_iff_ne.mpr c15
                       simp only [Option.some.injEq, Prod.mk.injEq] at H
                       obtain ⟨rfl, rfl, rfl⟩ := H
                       have p14 : 0 ≤ (x6_2 : Int) := of_decide_eq_true (by assumption)
                       have q14 : x6_2 < (5 : Int) := of_decide_eq_true (by assumption)
                       have hx14 := bt_at (⟨#[98, 97, 115, 105, 99]⟩ : ByteArray) x6_2
                       replace p14 := eq_true p14
                       replace q14 := eq_true q14
                       go_wp2
                       go_ret3
                       exact ⟨by (rfl), by (with_reducible exact HB.out)⟩
                   · rw [if_neg c13] at H
                     exact absurd H (by simp)
                 · rw [if_neg c12] at H
                   exact absurd H (by simp)
               · replace c11 := Bool.eq_false_iff.mpr c11
                 subst c11
                 have H1 : (if 0 ≤ x6_2 then (if x6_2 < ((⟨#[98, 97, 115, 105, 99]⟩ : ByteArray).size : Int) then (if (bt a0 x6_2) = (bt (⟨#[98, 97, 115, 105, 99]⟩ : ByteArray) x6_2) then (wicketref11_Basic.l0 kj8 a0 (⟨#[98, 97, 115, 105, 99]⟩ : ByteArray) (wrap64 (x6_2 + 1))) else (some ((⟨#[]⟩ : ByteArray), (⟨#[]⟩ : ByteArray), 113))) else (none)) else (none)) = some (r1, r2, r3) := by rw [if_neg (show ¬ (false = true) by decide)] at H; exact H
                 clear H
                 have H := H1
                 clear H1
                 by_cases c16 : 0 ≤ x6_2
                 · rw [if_pos c16] at H
                   have c16b0 : decide (0 ≤ x6_2) = true := decide_eq_true c16
                   clear c16
                   by_cases c17 : x6_2 < ((⟨#[98, 97, 115, 105, 99]⟩ : ByteArray).size : Int)
                   · rw [if_pos c17] at H
                     have c17b0 : decide (x6_2 < ((⟨#[98, 97, 115, 105, 99]⟩ : ByteArray).size : Int)) = true := decide_eq_true c17
                     clear c17
                     by_cases c19 : (bt a0 x6_2) = (bt (⟨#[98, 97, 115, 105, 99]⟩ : ByteArray) x6_2)
                     · rw [if_pos c19] at H
                       have c19b0 : ((bt a0 x6_2) == (bt (⟨#[98, 97, 115, 105, 99]⟩ : ByteArray) x6_2)) = true := beq_iff_eq.mpr c19
                       have c19b1 : ((bt a0 x6_2) != (bt (⟨#[98, 97, 115, 105, 99]⟩ : ByteArray) x6_2)) = false := bne_eq_false_iff_eq.mpr c19
                       clear c19
                       have H' := Aside0.mk H
                       clear H
                       have p18 : 0 ≤ (x6_2 : Int) := of_decide_eq_true (by assumption)
                       have q18 : x6_2 < (5 : Int) := of_decide_eq_true (by assumption)
                       have hx18 := bt_at (⟨#[98, 97, 115, 105, 99]⟩ : ByteArray) x6_2
                       replace p18 := eq_true p18
                       replace q18 := eq_true q18
                       go_wp2
                       go_roundg kj8
                       case measure => have := HJ1.out; have := HK2.out; have := HJ8.out; omega
                       case rel => exact ⟨(wrap64 (x6_2 + 1)), rfl, H', ⟨by have := HJ1.out; have := HK2.out; have := HJ8.out; omega⟩, ⟨HB.out⟩⟩
                     · rw [if_neg c19] at H
                       have c19b0 : ((bt a0 x6_2) == (bt (⟨#[98, 97, 115, 105, 99]⟩ : ByteArray) x6_2)) = false := beq_eq_false_iff_ne.mpr c19
                       have c19b1 : ((bt a0 x6_2) != (bt (⟨#[98, 97, 115, 105, 99]⟩ : ByteArray) x6_2)) = true := bne_iff_ne.mpr c19
                       simp only [Option.some.injEq, Prod.mk.injEq] at H
                       obtain ⟨rfl, rfl, rfl⟩ := H
                       have p18 : 0 ≤ (x6_2 : Int) := of_decide_eq_true (by assumption)
                       have q18 : x6_2 < (5 : Int) := of_decide_eq_true (by assumption)
                       have hx18 := bt_at (⟨#[98, 97, 115, 105, 99]⟩ : ByteArray) x6_2
                       replace p18 := eq_true p18
                       replace q18 := eq_true q18
                       go_wp2
                       go_ret3
                       exact ⟨by (rfl), by (with_reducible exact HB.out)⟩
                   · rw [if_neg c17] at H
                     exact absurd H (by simp)
                 · rw [if_neg c16] at H
                   exact absurd H (by simp)
           · rw [if_neg c7] at H
             exact absurd H (by simp)
         · rw [if_neg c6] at H
           exact absurd H (by simp)
       · rw [if_neg c5] at H
         have c5b0 : decide (x6_2 < 5) = false := decide_eq_false c5
         clear c5
         have HC20 := Aside0.mk H
         clear H
         go_upto_block 2 with (fail)
         go_cut [8] (fun v8 wc => ∃ (kq : Nat) (x8_19 : Int), v8 = .int .i64 x8_19 ∧ Aside0 (wicketref11_Basic.j4 kq a0 x8_19 = some (r1, r2, r3)) ∧ Aside0 (kq ≤ k2) ∧ Aside0 (Below w.heap.size w wc))
         case first =>
          have H := HC20.out
          clear HC20
          have H' := Aside0.mk H
          clear H
          go_wp2
          go_loopg [8] k2 (fun kq v8 w' => ∃ (x8_3 : Int), v8 = .int .i64 x8_3 ∧ Aside0 (wicketref11_Basic.l1 kq a0 x8_3 = some (r1, r2, r3)) ∧ Aside0 (kq ≤ k2) ∧ Aside0 (Below w.heap.size w w'))
          case atStart => exact ⟨(5), rfl, H', ⟨Nat.le_refl _⟩, ⟨HB.out⟩⟩
          case round =>
           clear H' c5b0
           obtain ⟨x8_3, rfl, HA, HK3, HB⟩ := hrel
           cases gk with
           | zero => exact absurd HA.out (by simp [wicketref11_Basic.l1])
           | succ k3 =>
            have H := HA.out
            clear HA
            simp only [wicketref11_Basic.l1] at H
            by_cases c21 : x8_3 < (a0.size : Int)
            · rw [if_pos c21] at H
              have c21b0 : decide (x8_3 < (a0.size : Int)) = true := decide_eq_true c21
              clear c21
              by_cases c22 : 0 ≤ x8_3
              · rw [if_pos c22] at H
                have c22b0 : decide (0 ≤ x8_3) = true := decide_eq_true c22
                clear c22
                by_cases c24 : (bt a0 x8_3) = 32
                · rw [if_pos c24] at H
                  have c24b0 : ((bt a0 x8_3) == 32) = true := beq_iff_eq.mpr c24
                  have c24b1 : ((bt a0 x8_3) != 32) = false := bne_eq_false_iff_eq.mpr c24
                  clear c24
                  have H' := Aside0.mk H
                  clear H
                  have p23 : 0 ≤ (x8_3 : Int) := of_decide_eq_true (by assumption)
                  have q23 : x8_3 < (a0.size : Int) := of_decide_eq_true (by assumption)
                  have hx23 := bt_at a0 x8_3
                  replace p23 := eq_true p23
                  replace q23 := eq_true q23
                  go_wp2
                  go_roundg k3
                  case measure => have := HJ1.out; have := HK2.out; have := HK3.out; omega
                  case rel => exact ⟨(wrap64 (x8_3 + 1)), rfl, H', ⟨by have := HJ1.out; have := HK2.out; have := HK3.out; omega⟩, ⟨HB.out⟩⟩
                · rw [if_neg c24] at H
                  have c24b0 : ((bt a0 x8_3) == 32) = false := beq_eq_false_iff_ne.mpr c24
                  have c24b1 : ((bt a0 x8_3) != 32) = true := bne_iff_ne.mpr c24
                  have H' := Aside0.mk H
                  clear H
                  have p23 : 0 ≤ (x8_3 : Int) := of_decide_eq_true (by assumption)
                  have q23 : x8_3 < (a0.size : Int) := of_decide_eq_true (by assumption)
                  have hx23 := bt_at a0 x8_3
                  replace p23 := eq_true p23
                  replace q23 := eq_true q23
                  go_wp2
                  go_meet
                  case rel => exact ⟨_, (x8_3), rfl, H', ⟨by have := HJ1.out; have := HK2.out; have := HK3.out; (omega)⟩, ⟨HB.out⟩⟩
              · rw [if_neg c22] at H
                exact absurd H (by simp)
            · rw [if_neg c21] at H
              have c21b0 : decide (x8_3 < (a0.size : Int)) = false := decide_eq_false c21
              clear c21
              have H' := Aside0.mk H
              clear H
              go_wp2
              go_meet
              case rel => exact ⟨_, (x8_3), rfl, H', ⟨by have := HJ1.out; have := HK2.out; have := HK3.out; (omega)⟩, ⟨HB.out⟩⟩
         case rest =>
          clear HC20 c5b0
          obtain ⟨kq, x8_19, rfl, HA, HJ19, HB⟩ := hcut
          cases kq with
          | zero => exact absurd HA.out (by simp [wicketref11_Basic.j4])
          | succ kj19 =>
           have H := HA.out
           clear HA
           simp only [wicketref11_Basic.j4] at H
           by_cases c25 : 0 ≤ x8_19
           · rw [if_pos c25] at H
             have c25b0 := eq_true c25
             have c25b1 : decide (0 ≤ x8_19) = true := decide_eq_true c25
             clear c25
             by_cases c26 : x8_19 ≤ (a0.size : Int)
             · rw [if_pos c26] at H
               have c26b0 := eq_true c26
               have c26b1 : decide (x8_19 ≤ (a0.size : Int)) = true := decide_eq_true c26
               clear c26
               replace H := Option.bind_eq_some_iff.mp H
               obtain ⟨⟨t444, t445⟩, A270, H⟩ := H
               replace H : (if x8_19 = 5 then (wicketref11_Basic.j5 kj19 t444 true) else (wicketref11_Basic.j5 kj19 t444 (!t445))) = some (r1, r2, r3) := H
               have A27 := Aside0.mk A270
               clear A270
               have HC28 := Aside0.mk H
               clear H
               go_upto_region 16 with (first | ((with_reducible refine gate_callee (f := 67) rfl ?_); refine goesL_ (some 63) rfl rfl Tryz.func67 (by kernel_rfl) rfl #[.string (a0.extract (x8_19 : Int).toNat a0.size)] rfl (by ((try simp only [List.map_toArray, List.map_cons, List.map_nil]); (rfl))) ?_; (with_reducible refine (wicketref11_decoded.calls kj19 (a0.extract (x8_19 : Int).toNat a0.size) t444 t445 _ A27.out).mono ?_); rintro e w29 ⟨rfl, hb⟩; refine ⟨_, rfl, ?_⟩; replace HB := Aside0.mk (below_step HB.out hb); clear hb))
               go_cut [71] (fun v71 wc => ∃ (kq : Nat) (x71_27 : Bool), v71 = .bool x71_27 ∧ Aside0 (wicketref11_Basic.j5 kq t444 x71_27 = some (r1, r2, r3)) ∧ Aside0 (kq ≤ kj19) ∧ Aside0 (Below w.heap.size w wc))
               case first =>
                have H := HC28.out
                clear HC28
                by_cases c30 : x8_19 = 5
                · rw [if_pos c30] at H
                  have c30b0 : (x8_19 == 5) = true := beq_iff_eq.mpr c30
                  have c30b1 : (x8_19 != 5) = false := bne_eq_false_iff_eq.mpr c30
                  clear c30
                  have H' := Aside0.mk H
                  clear H
                  go_wp2
                  go_meet
                  case rel => exact ⟨_, (true), rfl, H', ⟨by have := HJ1.out; have := HK2.out; have := HJ19.out; (omega)⟩, ⟨HB.out⟩⟩
                · rw [if_neg c30] at H
                  have c30b0 : (x8_19 == 5) = false := beq_eq_false_iff_ne.mpr c30
                  have c30b1 : (x8_19 != 5) = true := bne_iff_ne.mpr c30
                  have H' := Aside0.mk H
                  clear H
                  go_wp2
                  go_meet
                  case rel => exact ⟨_, (!t445), rfl, H', ⟨by have := HJ1.out; have := HK2.out; have := HJ19.out; (omega)⟩, ⟨HB.out⟩⟩
               case rest =>
                clear HC28 c25b0 c25b1 c26b0 c26b1
                obtain ⟨kq, x71_27, rfl, HA, HJ27, HB⟩ := hcut
                cases kq with
                | zero => exact absurd HA.out (by simp [wicketref11_Basic.j5])
                | succ kj27 =>
                 have H := HA.out
                 clear HA
                 simp only [wicketref11_Basic.j5] at H
                 by_cases c31 : x71_27 = true
                 · subst c31
                   have H1 : (some ((⟨#[]⟩ : ByteArray), (⟨#[]⟩ : ByteArray), 113)) = some (r1, r2, r3) := by rw [if_pos rfl] at H; exact H
                   clear H
                   have H := H1
                   clear H1
                   simp only [Option.some.injEq, Prod.mk.injEq] at H
                   obtain ⟨rfl, rfl, rfl⟩ := H
                   go_wp2
                   go_ret3
                   exact ⟨by (rfl), by (with_reducible exact HB.out)⟩
                 · replace c31 := Bool.eq_false_iff.mpr c31
                   subst c31
                   have H1 : (wicketref11_Basic.l2 kj27 t444 0) = some (r1, r2, r3) := by rw [if_neg (show ¬ (false = true) by decide)] at H; exact H
                   clear H
                   have H := H1
                   clear H1
                   have HC32 := Aside0.mk H
                   clear H
                   go_upto_block 4 with (fail)
                   go_cut [11] (fun v11 wc => ∃ (kq : Nat) (x11_31 : Int), v11 = .int .i64 x11_31 ∧ Aside0 (wicketref11_Basic.j7 kq t444 x11_31 = some (r1, r2, r3)) ∧ Aside0 (kq ≤ kj27) ∧ Aside0 (Below w.heap.size w wc))
                   case first =>
                    have H := HC32.out
                    clear HC32
                    have H' := Aside0.mk H
                    clear H
                    go_wp2
                    go_loopg [11] kj27 (fun kq v11 w' => ∃ (x11_5 : Int), v11 = .int .i64 x11_5 ∧ Aside0 (wicketref11_Basic.l2 kq t444 x11_5 = some (r1, r2, r3)) ∧ Aside0 (kq ≤ kj27) ∧ Aside0 (Below w.heap.size w w'))
                    case atStart => exact ⟨(0), rfl, H', ⟨Nat.le_refl _⟩, ⟨HB.out⟩⟩
                    case round =>
                     clear H'
                     obtain ⟨x11_5, rfl, HA, HK5, HB⟩ := hrel
                     cases gk with
                     | zero => exact absurd HA.out (by simp [wicketref11_Basic.l2])
                     | succ k5 =>
                      have H := HA.out
                      clear HA
                      simp only [wicketref11_Basic.l2] at H
                      by_cases c33 : x11_5 < (t444.size : Int)
                      · rw [if_pos c33] at H
                        have c33b0 : decide (x11_5 < (t444.size : Int)) = true := decide_eq_true c33
                        clear c33
                        by_cases c34 : 0 ≤ x11_5
                        · rw [if_pos c34] at H
                          have c34b0 : decide (0 ≤ x11_5) = true := decide_eq_true c34
                          clear c34
                          by_cases c36 : (bt t444 x11_5) = 58
                          · rw [if_pos c36] at H
                            have c36b0 : ((bt t444 x11_5) == 58) = true := beq_iff_eq.mpr c36
                            have c36b1 : ((bt t444 x11_5) != 58) = false := bne_eq_false_iff_eq.mpr c36
                            clear c36
                            have H' := Aside0.mk H
                            clear H
                            have p35 : 0 ≤ (x11_5 : Int) := of_decide_eq_true (by assumption)
                            have q35 : x11_5 < (t444.size : Int) := of_decide_eq_true (by assumption)
                            have hx35 := bt_at t444 x11_5
                            replace p35 := eq_true p35
                            replace q35 := eq_true q35
                            go_wp2
                            go_meet
                            case rel => exact ⟨_, (x11_5), rfl, H', ⟨by have := HJ1.out; have := HK2.out; have := HJ19.out; have := HJ27.out; have := HK5.out; (omega)⟩, ⟨HB.out⟩⟩
                          · rw [if_neg c36] at H
                            have c36b0 : ((bt t444 x11_5) == 58) = false := beq_eq_false_iff_ne.mpr c36
                            have c36b1 : ((bt t444 x11_5) != 58) = true := bne_iff_ne.mpr c36
                            have H' := Aside0.mk H
                            clear H
                            have p35 : 0 ≤ (x11_5 : Int) := of_decide_eq_true (by assumption)
                            have q35 : x11_5 < (t444.size : Int) := of_decide_eq_true (by assumption)
                            have hx35 := bt_at t444 x11_5
                            replace p35 := eq_true p35
                            replace q35 := eq_true q35
                            go_wp2
                            go_roundg k5
                            case measure => have := HJ1.out; have := HK2.out; have := HJ19.out; have := HJ27.out; have := HK5.out; omega
                            case rel => exact ⟨(wrap64 (x11_5 + 1)), rfl, H', ⟨by have := HJ1.out; have := HK2.out; have := HJ19.out; have := HJ27.out; have := HK5.out; omega⟩, ⟨HB.out⟩⟩
                        · rw [if_neg c34] at H
                          exact absurd H (by simp)
                      · rw [if_neg c33] at H
                        have c33b0 : decide (x11_5 < (t444.size : Int)) = false := decide_eq_false c33
                        clear c33
                        have H' := Aside0.mk H
                        clear H
                        go_wp2
                        go_meet
                        case rel => exact ⟨_, (x11_5), rfl, H', ⟨by have := HJ1.out; have := HK2.out; have := HJ19.out; have := HJ27.out; have := HK5.out; (omega)⟩, ⟨HB.out⟩⟩
                   case rest =>
                    clear HC32
                    obtain ⟨kq, x11_31, rfl, HA, HJ31, HB⟩ := hcut
                    cases kq with
                    | zero => exact absurd HA.out (by simp [wicketref11_Basic.j7])
                    | succ kj31 =>
                     have H := HA.out
                     clear HA
                     simp only [wicketref11_Basic.j7] at H
                     by_cases c37 : x11_31 = (t444.size : Int)
                     · rw [if_pos c37] at H
                       have c37b0 : (x11_31 == (t444.size : Int)) = true := beq_iff_eq.mpr c37
                       have c37b1 : (x11_31 != (t444.size : Int)) = false := bne_eq_false_iff_eq.mpr c37
                       clear c37
                       simp only [Option.some.injEq, Prod.mk.injEq] at H
                       obtain ⟨rfl, rfl, rfl⟩ := H
                       go_wp2
                       go_ret3
                       exact ⟨by (rfl), by (with_reducible exact HB.out)⟩
                     · rw [if_neg c37] at H
                       have c37b0 : (x11_31 == (t444.size : Int)) = false := beq_eq_false_iff_ne.mpr c37
                       have c37b1 : (x11_31 != (t444.size : Int)) = true := bne_iff_ne.mpr c37
                       by_cases c38 : 0 ≤ x11_31
                       · rw [if_pos c38] at H
                         have c38b0 := eq_true c38
                         have c38b1 : decide (0 ≤ x11_31) = true := decide_eq_true c38
                         clear c38
                         by_cases c39 : x11_31 ≤ (t444.size : Int)
                         · rw [if_pos c39] at H
                           have c39b0 := eq_true c39
                           have c39b1 : decide (x11_31 ≤ (t444.size : Int)) = true := decide_eq_true c39
                           clear c39
                           replace H := Option.bind_eq_some_iff.mp H
                           obtain ⟨⟨t446, t447, t448⟩, A400, H⟩ := H
                           replace H : (if 0 ≤ (wrap64 (x11_31 + 1)) then (if (wrap64 (x11_31 + 1)) ≤ (t444.size : Int) then ((wicketref03_Unescape.f kj31 (t444.extract ((wrap64 (x11_31 + 1)) : Int).toNat t444.size)).bind fun bt449 => (if t447 = 0 then (if bt449.2.1 = 0 then (some (t446, bt449.1, 0)) else (some ((⟨#[]⟩ : ByteArray), (⟨#[]⟩ : ByteArray), 113))) else (some ((⟨#[]⟩ : ByteArray), (⟨#[]⟩ : ByteArray), 113)))) else (none)) else (none)) = some (r1, r2, r3) := H
                           have A40 := Aside0.mk A400
                           clear A400
                           obtain ⟨ji41, hji41⟩ : ∃ j_ : Int, (wrap64 (x11_31 + 1)) = j_ := ⟨_, rfl⟩
                           replace H : (if 0 ≤ (ji41) then (if (ji41) ≤ (t444.size : Int) then ((wicketref03_Unescape.f kj31 (t444.extract ((ji41) : Int).toNat t444.size)).bind fun bt449 => (if t447 = 0 then (if bt449.2.1 = 0 then (some (t446, bt449.1, 0)) else (some ((⟨#[]⟩ : ByteArray), (⟨#[]⟩ : ByteArray), 113))) else (some ((⟨#[]⟩ : ByteArray), (⟨#[]⟩ : ByteArray), 113)))) else (none)) else (none)) = some (r1, r2, r3) := by (rw [hji41] at H; exact H)
                           have hji41w : (IntKind.i64.wrap (x11_31 + 1)) = ji41 := (i64_w _).trans hji41
                           by_cases c42 : 0 ≤ (ji41)
                           · rw [if_pos c42] at H
                             have c42b0 := eq_true c42
                             have c42b1 : decide (0 ≤ (ji41)) = true := decide_eq_true c42
                             clear c42
                             by_cases c43 : (ji41) ≤ (t444.size : Int)
                             · rw [if_pos c43] at H
                               have c43b0 := eq_true c43
                               have c43b1 : decide ((ji41) ≤ (t444.size : Int)) = true := decide_eq_true c43
                               clear c43
                               replace H := Option.bind_eq_some_iff.mp H
                               obtain ⟨⟨t449, t450, t451⟩, A440, H⟩ := H
                               replace H : (if t447 = 0 then (if t450 = 0 then (some (t446, t449, 0)) else (some ((⟨#[]⟩ : ByteArray), (⟨#[]⟩ : ByteArray), 113))) else (some ((⟨#[]⟩ : ByteArray), (⟨#[]⟩ : ByteArray), 113))) = some (r1, r2, r3) := H
                               have A44 := Aside0.mk A440
                               clear A440
                               by_cases c45 : t447 = 0
                               · rw [if_pos c45] at H
                                 have c45b0 : (t447 == 0) = true := beq_iff_eq.mpr c45
                                 have c45b1 : (t447 != 0) = false := bne_eq_false_iff_eq.mpr c45
                                 clear c45
                                 by_cases c46 : t450 = 0
                                 · rw [if_pos c46] at H
                                   have c46b0 : (t450 == 0) = true := beq_iff_eq.mpr c46
                                   have c46b1 : (t450 != 0) = false := bne_eq_false_iff_eq.mpr c46
                                   clear c46
                                   simp only [Option.some.injEq, Prod.mk.injEq] at H
                                   obtain ⟨rfl, rfl, rfl⟩ := H
                                   go_wp2_with (first | ((with_reducible refine gate_callee (f := 68) rfl ?_); refine goesL_ (some 92) rfl rfl Tryz.func68 (by kernel_rfl) rfl #[.string (t444.extract 0 (x11_31 : Int).toNat)] rfl (by ((try simp only [List.map_toArray, List.map_cons, List.map_nil]); (rfl))) ?_; (with_reducible refine (wicketref03_Unescape.calls kj31 (t444.extract 0 (x11_31 : Int).toNat) t446 t447 t448 _ A40.out).mono ?_); rintro e w47 ⟨rfl, hb⟩; refine ⟨_, rfl, ?_⟩; replace HB := Aside0.mk (below_step HB.out hb); clear hb) | ((with_reducible refine gate_callee (f := 68) rfl ?_); refine goesL_ (some 101) rfl rfl Tryz.func68 (by kernel_rfl) rfl #[.string (t444.extract ((ji41) : Int).toNat t444.size)] rfl (by (try simp only [List.map_toArray, List.map_cons, List.map_nil]); (rfl)) ?_; (with_reducible refine (wicketref03_Unescape.calls kj31 (t444.extract ((ji41) : Int).toNat t444.size) t449 t450 t451 _ A44.out).mono ?_); rintro e w48 ⟨rfl, hb⟩; refine ⟨_, rfl, ?_⟩; replace HB := Aside0.mk (below_step HB.out hb); clear hb))
                                   go_ret3
                                   exact ⟨by (rfl), by (with_reducible exact HB.out)⟩
                                 · rw [if_neg c46] at H
                                   have c46b0 : (t450 == 0) = false := beq_eq_false_iff_ne.mpr c46
                                   have c46b1 : (t450 != 0) = true := bne_iff_ne.mpr c46
                                   simp only [Option.some.injEq, Prod.mk.injEq] at H
                                   obtain ⟨rfl, rfl, rfl⟩ := H
                                   go_wp2_with (first | ((with_reducible refine gate_callee (f := 68) rfl ?_); refine goesL_ (some 92) rfl rfl Tryz.func68 (by kernel_rfl) rfl #[.string (t444.extract 0 (x11_31 : Int).toNat)] rfl (by ((try simp only [List.map_toArray, List.map_cons, List.map_nil]); (rfl))) ?_; (with_reducible refine (wicketref03_Unescape.calls kj31 (t444.extract 0 (x11_31 : Int).toNat) t446 t447 t448 _ A40.out).mono ?_); rintro e w49 ⟨rfl, hb⟩; refine ⟨_, rfl, ?_⟩; replace HB := Aside0.mk (below_step HB.out hb); clear hb) | ((with_reducible refine gate_callee (f := 68) rfl ?_); refine goesL_ (some 101) rfl rfl Tryz.func68 (by kernel_rfl) rfl #[.string (t444.extract ((ji41) : Int).toNat t444.size)] rfl (by (try simp only [List.map_toArray, List.map_cons, List.map_nil]); (rfl)) ?_; (with_reducible refine (wicketref03_Unescape.calls kj31 (t444.extract ((ji41) : Int).toNat t444.size) t449 t450 t451 _ A44.out).mono ?_); rintro e w50 ⟨rfl, hb⟩; refine ⟨_, rfl, ?_⟩; replace HB := Aside0.mk (below_step HB.out hb); clear hb))
                                   go_ret3
                                   exact ⟨by (rfl), by (with_reducible exact HB.out)⟩
                               · rw [if_neg c45] at H
                                 have c45b0 : (t447 == 0) = false := beq_eq_false_iff_ne.mpr c45
                                 have c45b1 : (t447 != 0) = true := bne_iff_ne.mpr c45
                                 simp only [Option.some.injEq, Prod.mk.injEq] at H
                                 obtain ⟨rfl, rfl, rfl⟩ := H
                                 go_wp2_with (first | ((with_reducible refine gate_callee (f := 68) rfl ?_); refine goesL_ (some 92) rfl rfl Tryz.func68 (by kernel_rfl) rfl #[.string (t444.extract 0 (x11_31 : Int).toNat)] rfl (by ((try simp only [List.map_toArray, List.map_cons, List.map_nil]); (rfl))) ?_; (with_reducible refine (wicketref03_Unescape.calls kj31 (t444.extract 0 (x11_31 : Int).toNat) t446 t447 t448 _ A40.out).mono ?_); rintro e w51 ⟨rfl, hb⟩; refine ⟨_, rfl, ?_⟩; replace HB := Aside0.mk (below_step HB.out hb); clear hb) | ((with_reducible refine gate_callee (f := 68) rfl ?_); refine goesL_ (some 101) rfl rfl Tryz.func68 (by kernel_rfl) rfl #[.string (t444.extract ((ji41) : Int).toNat t444.size)] rfl (by (try simp only [List.map_toArray, List.map_cons, List.map_nil]); (rfl)) ?_; (with_reducible refine (wicketref03_Unescape.calls kj31 (t444.extract ((ji41) : Int).toNat t444.size) t449 t450 t451 _ A44.out).mono ?_); rintro e w52 ⟨rfl, hb⟩; refine ⟨_, rfl, ?_⟩; replace HB := Aside0.mk (below_step HB.out hb); clear hb))
                                 go_ret3
                                 exact ⟨by (rfl), by (with_reducible exact HB.out)⟩
                             · rw [if_neg c43] at H
                               exact absurd H (by simp)
                           · rw [if_neg c42] at H
                             exact absurd H (by simp)
                         · rw [if_neg c39] at H
                           exact absurd H (by simp)
                       · rw [if_neg c38] at H
                         exact absurd H (by simp)
             · rw [if_neg c26] at H
               exact absurd H (by simp)
           · rw [if_neg c25] at H
             exact absurd H (by simp)
end Go.Proofs.YtmimipgmhgalaaaGreatDoor.PAll
end
section
namespace Go.Proofs.YtmimipgmhgalaaaGreatDoor.PAll
open Go.RowKit Go.Proofs.YtmimipgmhgalaaaGreatDoorW.PrintWords Go.Proofs.YtmimipgmhgalaaaGreatDoorW.PrintLast Go.Proofs.YtmimipgmhgalaaaGreatDoorW.PrintMore
attribute [local go_sem] max2_int min2_int max_two min_two max_three min_three max_four min_four
set_option linter.unusedVariables false
set_option linter.unusedSimpArgs false
end Go.Proofs.YtmimipgmhgalaaaGreatDoor.PAll
end
section
namespace Go.Proofs.YtmimipgmhgalaaaGreatDoor.PAll
open Go.RowKit Go.Proofs.YtmimipgmhgalaaaGreatDoorW.PrintWords Go.Proofs.YtmimipgmhgalaaaGreatDoorW.PrintLast Go.Proofs.YtmimipgmhgalaaaGreatDoorW.PrintMore
set_option linter.unusedVariables false
set_option linter.unusedSimpArgs false
theorem r_empty {W : World} {base : Nat} (hb : base ≤ W.heap.size) : Kd.R k68 68 (W.alloc (.cells #[] 68)) base (fun _ => True) (.slice (some ⟨W.heap.size, 0, none⟩) 0 0) ([] : List S68) :=
  ⟨fun _ _ => trivial, _, World.ownsRow_lit (base := base) (e := 68) (size := 2) W #[] 0 hb (by decide) rfl, Reps.none _ _⟩
def AuthAt (w : World) (c : List S40) (a1 : ByteArray) (l2 : List S68) (x : S40) (n er : Int) : Prop :=
  ∀ (V : World) (A B : Option Addr) (ca cb : Nat), Below w.heap.size w V → Kd.C k40 V A c.length c → c.length ≤ ca → Kd.C k68 V B l2.length l2 → l2.length ≤ cb →
    Calls Tryz.prog 34 #[.slice A c.length ca, .string a1, .slice B l2.length cb] V fun e' w' => ∃ v5 : Value, e' = .returned (.tuple #[.agg #[.string x.f0, .string x.f1, .int .i64 x.f2, .bool x.f3, .string x.f4, v5], .int .i64 n, .int .i64 er]) ∧ Kd.R Kd.string 9 w' V.heap.size (fun _ => True) v5 x.f5 ∧ Below V.heap.size V w'
end Go.Proofs.YtmimipgmhgalaaaGreatDoor.PAll
end
