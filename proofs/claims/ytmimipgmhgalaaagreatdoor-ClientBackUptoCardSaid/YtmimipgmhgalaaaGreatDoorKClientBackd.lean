/-
  Part 4 of what the proof of ClientBack leans on: words of the print, walks of functions and plain laws; put together by pack.py, a program of this session.
-/
import Derived.Laws.CopyRow
import Derived.Outline
import Derived.Lib.ConvBytes
import Derived.Laws.BitsLemmas
import Derived.Lib.Hide
import Derived.Great.Walk
import Derived.Test.YtmimipgmhgalaaaGreatDoorKClientBackc
section
namespace Go.Proofs.YtmimipgmhgalaaaGreatDoor.PAll
open Go.RowKit Go.Proofs.YtmimipgmhgalaaaGreatDoorW.PrintWords Go.Proofs.YtmimipgmhgalaaaGreatDoorW.PrintLast Go.Proofs.YtmimipgmhgalaaaGreatDoorW.PrintMore
attribute [local go_sem] max2_int min2_int max_two min_two max_three min_three max_four min_four
set_option linter.unusedVariables false
set_option linter.unusedSimpArgs false
def wicketlaw11_list.l0 : Nat → List (S40) → List (S43) → Int → Option (Bool)
 | 0, _, _, _ => none
 | k + 1, x0, x1, x5 => if x5 < (x0.length : Int) then (if 0 ≤ x5 then (if x5 < (x1.length : Int) then ((wicketlaw11_same.f k ((rd_T40 x0 x5).f0) ((rd_T40 x0 x5).f1) ((rd_T40 x0 x5).f2) ((rd_T40 x0 x5).f3) ((rd_T40 x0 x5).f4) ((rd_T40 x0 x5).f5) ((rd_T43 x1 x5).f0) ((rd_T43 x1 x5).f1) ((rd_T43 x1 x5).f2) ((rd_T43 x1 x5).f3) ((rd_T43 x1 x5).f4) ((rd_T43 x1 x5).f5)).bind fun t315 => (if t315 = true then (wicketlaw11_list.l0 k x0 x1 (wrap64 (x5 + 1))) else (some false))) else (none)) else (none)) else (some true)
def wicketlaw11_list.f (k : Nat) (l0 : List (S40)) (l1 : List (S43)) : Option (Bool) := if (l0.length : Int) = (l1.length : Int) then (wicketlaw11_list.l0 k l0 l1 0) else (some false)
def wicketlaw11_list.T6 : Bool × List (List Nat × List Nat) := (true, [([], []), ([], []), ([0, 1], [0, 1]), ([2], [2]), ([], []), ([], []), ([4, 5], [4, 5]), ([6], [6]), ([3, 7], [3, 7]), ([8], [8])])
def wicketlaw11_list.B6 : List Nat := [0, 0, 3, 7, 0, 0, 48, 112, 255, 511]
theorem wicketlaw11_list.tab6 : rtab .any (opsOf Tryz.f20 6) = wicketlaw11_list.T6 := by kernel_rfl
theorem wicketlaw11_list.bits6 : waitsOk wicketlaw11_list.T6.2 wicketlaw11_list.B6 = true := by kernel_rfl
set_option maxHeartbeats 8000000 in
set_option maxRecDepth 100000 in
theorem wicketlaw11_list.calls (k : Nat) (A0 : Option Addr) (c0 : Nat) (l0 : List (S40)) (A1 : Option Addr) (c1 : Nat) (l1 : List (S43)) (r : Bool) (w : World) (hr0 : Kd.C k40 w A0 l0.length l0) (hc0 : l0.length ≤ c0) (hr1 : Kd.C k43 w A1 l1.length l1) (hc1 : l1.length ≤ c1) (h : wicketlaw11_list.f k l0 l1 = some r) :
 Calls Tryz.prog 20 #[.slice A0 l0.length c0, .slice A1 l1.length c1] w fun e w' => e = .returned (.bool r) ∧ Below w.heap.size w w' := by
 have hu40 := Tryz.underlying40
 have hu43 := Tryz.underlying43
 have HR0 := Aside0.mk hr0
 have HC0 := Aside0.mk hc0
 clear hr0 hc0
 have HR1 := Aside0.mk hr1
 have HC1 := Aside0.mk hc1
 clear hr1 hc1
 have HB := Aside0.mk (Below.refl w.heap.size w)
 have H : (if (l0.length : Int) = (l1.length : Int) then (wicketlaw11_list.l0 k l0 l1 0) else (some false)) = some r := h
 clear h
 by_cases c3 : (l0.length : Int) = (l1.length : Int)
 · rw [if_pos c3] at H
   have c3b0 : ((l0.length : Int) == (l1.length : Int)) = true := beq_iff_eq.mpr c3
   have c3b1 : ((l0.length : Int) != (l1.length : Int)) = false := bne_eq_false_iff_eq.mpr c3
   have c3b2 : (l0.length == l1.length) = true := by (simp at c3 ⊢; omega)
   clear c3
   have H' := Aside0.mk H
   clear H
   go_enter Tryz.func20, Tryz.ntmps20
   go_wp2
   go_loopg [5] k (fun kq v5 w' => ∃ (x5_1 : Int), v5 = .int .i64 x5_1 ∧ Aside0 (wicketlaw11_list.l0 kq l0 l1 x5_1 = some r) ∧ Aside0 (kq ≤ k) ∧ Aside0 (Below w.heap.size w w'))
   case atStart => exact ⟨(0), rfl, H', ⟨Nat.le_refl _⟩, ⟨HB.out⟩⟩
   case round =>
    clear H' c3b0 c3b1 c3b2
    obtain ⟨x5_1, rfl, HA, HK1, HB⟩ := hrel
    cases gk with
    | zero => exact absurd HA.out (by simp [wicketlaw11_list.l0])
    | succ k1 =>
     have H := HA.out
     clear HA
     simp only [wicketlaw11_list.l0] at H
     by_cases c4 : x5_1 < (l0.length : Int)
     · rw [if_pos c4] at H
       have c4b0 : decide (x5_1 < (l0.length : Int)) = true := decide_eq_true c4
       clear c4
       by_cases c5 : 0 ≤ x5_1
       · rw [if_pos c5] at H
         have c5b0 : decide (0 ≤ x5_1) = true := decide_eq_true c5
         clear c5
         by_cases c6 : x5_1 < (l1.length : Int)
         · rw [if_pos c6] at H
           have c6b0 : decide (x5_1 < (l1.length : Int)) = true := decide_eq_true c6
           clear c6
           replace H := Option.bind_eq_some_iff.mp H
           obtain ⟨t315, A70, H⟩ := H
           replace H : (if t315 = true then (wicketlaw11_list.l0 k1 l0 l1 (wrap64 (x5_1 + 1))) else (some false)) = some r := H
           have A7 := Aside0.mk A70
           clear A70
           by_cases c8 : t315 = true
           · subst c8
             have H1 : (wicketlaw11_list.l0 k1 l0 l1 (wrap64 (x5_1 + 1))) = some r := by rw [if_pos rfl] at H; exact H
             clear H
             have H := H1
             clear H1
             have H' := Aside0.mk H
             clear H
             try go_wp2
             have n0_ := Aside0.mk (below_drew1 HB.out)
             clear HB
             have HB := n0_
             clear n0_
             have p313 : 0 ≤ (x5_1 : Int) := of_decide_eq_true (by assumption)
             have q313 : x5_1 < (l0.length : Int) := of_decide_eq_true (by assumption)
             obtain ⟨ad313, A313_5, c313_5, e313, hx313_0, hx313_1, hx313_2, hx313_3, hx313_4, hx313_5, hl313_5, hi313_5⟩ := at_T40 HR0.out x5_1 p313 q313
             have hw313_5 := hx313_5
             have hw313_4 := hx313_4
             have hw313_3 := hx313_3
             have hw313_2 := hx313_2
             have hw313_1 := hx313_1
             have hw313_0 := hx313_0
             cases e313
             replace hx313_0 := (HB.out.cell (World.block_lt_of_cell? w _ hx313_0)).trans hx313_0
             replace hx313_1 := (HB.out.cell (World.block_lt_of_cell? w _ hx313_1)).trans hx313_1
             replace hx313_2 := (HB.out.cell (World.block_lt_of_cell? w _ hx313_2)).trans hx313_2
             replace hx313_3 := (HB.out.cell (World.block_lt_of_cell? w _ hx313_3)).trans hx313_3
             replace hx313_4 := (HB.out.cell (World.block_lt_of_cell? w _ hx313_4)).trans hx313_4
             replace hx313_5 := (HB.out.cell (World.block_lt_of_cell? w _ hx313_5)).trans hx313_5
             have HR313_5 := Aside0.mk hi313_5
             have HC313_5 := Aside0.mk hl313_5
             clear hi313_5 hl313_5
             replace p313 := eq_true p313
             replace q313 := eq_true q313
             have p314 : 0 ≤ (x5_1 : Int) := of_decide_eq_true (by assumption)
             have q314 : x5_1 < (l1.length : Int) := of_decide_eq_true (by assumption)
             obtain ⟨ad314, A314_5, c314_5, e314, hx314_0, hx314_1, hx314_2, hx314_3, hx314_4, hx314_5, hl314_5, hi314_5⟩ := at_T43 HR1.out x5_1 p314 q314
             have hw314_5 := hx314_5
             have hw314_4 := hx314_4
             have hw314_3 := hx314_3
             have hw314_2 := hx314_2
             have hw314_1 := hx314_1
             have hw314_0 := hx314_0
             cases e314
             replace hx314_0 := (HB.out.cell (World.block_lt_of_cell? w _ hx314_0)).trans hx314_0
             replace hx314_1 := (HB.out.cell (World.block_lt_of_cell? w _ hx314_1)).trans hx314_1
             replace hx314_2 := (HB.out.cell (World.block_lt_of_cell? w _ hx314_2)).trans hx314_2
             replace hx314_3 := (HB.out.cell (World.block_lt_of_cell? w _ hx314_3)).trans hx314_3
             replace hx314_4 := (HB.out.cell (World.block_lt_of_cell? w _ hx314_4)).trans hx314_4
             replace hx314_5 := (HB.out.cell (World.block_lt_of_cell? w _ hx314_5)).trans hx314_5
             have HR314_5 := Aside0.mk hi314_5
             have HC314_5 := Aside0.mk hl314_5
             clear hi314_5 hl314_5
             replace p314 := eq_true p314
             replace q314 := eq_true q314
             refine start_ (n := 10) (S := fun w' => w'.cell? (ad313.add ((x5_1).toNat * 6)) = some (.string ((rd_T40 l0 x5_1).f0)) ∧ w'.cell? ⟨(ad313.add ((x5_1).toNat * 6)).block, (ad313.add ((x5_1).toNat * 6)).off + 1, none⟩ = some (.string ((rd_T40 l0 x5_1).f1)) ∧ w'.cell? ⟨(ad313.add ((x5_1).toNat * 6)).block, (ad313.add ((x5_1).toNat * 6)).off + 2, none⟩ = some (.int .i64 ((rd_T40 l0 x5_1).f2)) ∧ w'.cell? ⟨(ad313.add ((x5_1).toNat * 6)).block, (ad313.add ((x5_1).toNat * 6)).off + 3, none⟩ = some (.bool ((rd_T40 l0 x5_1).f3)) ∧ w'.cell? ⟨(ad313.add ((x5_1).toNat * 6)).block, (ad313.add ((x5_1).toNat * 6)).off + 4, none⟩ = some (.string ((rd_T40 l0 x5_1).f4)) ∧ w'.cell? ⟨(ad313.add ((x5_1).toNat * 6)).block, (ad313.add ((x5_1).toNat * 6)).off + 5, none⟩ = some (.slice A313_5 ((rd_T40 l0 x5_1).f5).length c313_5) ∧ w'.cell? (ad314.add ((x5_1).toNat * 6)) = some (.string ((rd_T43 l1 x5_1).f0)) ∧ w'.cell? ⟨(ad314.add ((x5_1).toNat * 6)).block, (ad314.add ((x5_1).toNat * 6)).off + 1, none⟩ = some (.string ((rd_T43 l1 x5_1).f1)) ∧ w'.cell? ⟨(ad314.add ((x5_1).toNat * 6)).block, (ad314.add ((x5_1).toNat * 6)).off + 2, none⟩ = some (.int .i64 ((rd_T43 l1 x5_1).f2)) ∧ w'.cell? ⟨(ad314.add ((x5_1).toNat * 6)).block, (ad314.add ((x5_1).toNat * 6)).off + 3, none⟩ = some (.bool ((rd_T43 l1 x5_1).f3)) ∧ w'.cell? ⟨(ad314.add ((x5_1).toNat * 6)).block, (ad314.add ((x5_1).toNat * 6)).off + 4, none⟩ = some (.string ((rd_T43 l1 x5_1).f4)) ∧ w'.cell? ⟨(ad314.add ((x5_1).toNat * 6)).block, (ad314.add ((x5_1).toNat * 6)).off + 5, none⟩ = some (.slice A314_5 ((rd_T43 l1 x5_1).f5).length c314_5)) (ds := []) #[false, false, false, false, false, false, false, false, false, false] (by kernel_rfl) rfl rfl ⟨((HB.out.cell (World.block_lt_of_cell? w _ hw313_0)).trans hw313_0), ((HB.out.cell (World.block_lt_of_cell? w _ hw313_1)).trans hw313_1), ((HB.out.cell (World.block_lt_of_cell? w _ hw313_2)).trans hw313_2), ((HB.out.cell (World.block_lt_of_cell? w _ hw313_3)).trans hw313_3), ((HB.out.cell (World.block_lt_of_cell? w _ hw313_4)).trans hw313_4), ((HB.out.cell (World.block_lt_of_cell? w _ hw313_5)).trans hw313_5), ((HB.out.cell (World.block_lt_of_cell? w _ hw314_0)).trans hw314_0), ((HB.out.cell (World.block_lt_of_cell? w _ hw314_1)).trans hw314_1), ((HB.out.cell (World.block_lt_of_cell? w _ hw314_2)).trans hw314_2), ((HB.out.cell (World.block_lt_of_cell? w _ hw314_3)).trans hw314_3), ((HB.out.cell (World.block_lt_of_cell? w _ hw314_4)).trans hw314_4), ((HB.out.cell (World.block_lt_of_cell? w _ hw314_5)).trans hw314_5)⟩ (fun hHeld => ?_); refine with_tabW wicketlaw11_list.tab6 wicketlaw11_list.bits6 (fun HT_ HW_ => ?_)
             generalize wr.drew = w9 at HB HR313_5 HR314_5 hx313_0 hx313_1 hx313_2 hx313_3 hx313_4 hx313_5 hx314_0 hx314_1 hx314_2 hx314_3 hx314_4 hx314_5 hHeld ⊢
             refine pure_ (i := 0) (N := some 17) (v := ?_) (a' := ?_) #[true, false, false, false, false, false, false, false, false, false] rfl rfl (any_of HT_.out (by kernel_rfl)) (fun _ _ _ h => h) (Or.inl ⟨by rfl, ?_⟩) ?_ ?_
             rotate_left
             · intro w'
               go_simp
               with_reducible rfl
             rotate_left
             · simp only [Act.put, List.setIfInBounds_toArray, List.set_cons_zero, List.set_cons_succ, i64_w, i32_w]
               rfl
             refine pure_ (i := 1) (N := some 18) (v := ?_) (a' := ?_) #[true, true, false, false, false, false, false, false, false, false] rfl rfl (any_of HT_.out (by kernel_rfl)) (fun _ _ _ h => h) (Or.inl ⟨by rfl, ?_⟩) ?_ ?_
             rotate_left
             · intro w'
               go_simp
               with_reducible rfl
             rotate_left
             · simp only [Act.put, List.setIfInBounds_toArray, List.set_cons_zero, List.set_cons_succ, i64_w, i32_w]
               rfl
             refine pure_ (i := 2) (N := some 19) (v := ?_) (a' := ?_) #[true, true, true, false, false, false, false, false, false, false] rfl rfl (any_of HT_.out (by kernel_rfl)) (fun _ _ _ h => h) (Or.inl ⟨by rfl, ?_⟩) ?_ ?_
             rotate_left
             · intro w'
               go_simp
               with_reducible rfl
             rotate_left
             · simp only [Act.put, List.setIfInBounds_toArray, List.set_cons_zero, List.set_cons_succ, i64_w, i32_w]
               rfl
             refine pure_ (i := 4) (N := some 21) (v := ?_) (a' := ?_) #[true, true, true, false, true, false, false, false, false, false] rfl rfl (any_of HT_.out (by kernel_rfl)) (fun _ _ _ h => h) (Or.inl ⟨by rfl, ?_⟩) ?_ ?_
             rotate_left
             · intro w'
               go_simp
               with_reducible rfl
             rotate_left
             · simp only [Act.put, List.setIfInBounds_toArray, List.set_cons_zero, List.set_cons_succ, i64_w, i32_w]
               rfl
             refine pure_ (i := 5) (N := some 22) (v := ?_) (a' := ?_) #[true, true, true, false, true, true, false, false, false, false] rfl rfl (any_of HT_.out (by kernel_rfl)) (fun _ _ _ h => h) (Or.inl ⟨by rfl, ?_⟩) ?_ ?_
             rotate_left
             · intro w'
               go_simp
               with_reducible rfl
             rotate_left
             · simp only [Act.put, List.setIfInBounds_toArray, List.set_cons_zero, List.set_cons_succ, i64_w, i32_w]
               rfl
             refine pure_ (i := 6) (N := some 23) (v := ?_) (a' := ?_) #[true, true, true, false, true, true, true, false, false, false] rfl rfl (any_of HT_.out (by kernel_rfl)) (fun _ _ _ h => h) (Or.inl ⟨by rfl, ?_⟩) ?_ ?_
             rotate_left
             · intro w'
               go_simp
               with_reducible rfl
             rotate_left
             · simp only [Act.put, List.setIfInBounds_toArray, List.set_cons_zero, List.set_cons_succ, i64_w, i32_w]
               rfl
             refine take_ (i := 3) (N := some 20) (v := ?_) (a' := ?_) #[true, true, true, true, true, true, true, false, false, false] rfl rfl (take_ofW HT_.out HW_.out (by kernel_rfl)) (fun _ _ _ h => h) (Or.inl ⟨by rfl, ?_⟩) hHeld ?_ ?_
             rotate_left
             · rintro w' ⟨s0, s1, s2, s3, s4, s5, s6, s7, s8, s9, s10, s11⟩
               go_simp
               with_reducible rfl
             rotate_left
             · simp only [Act.put, List.setIfInBounds_toArray, List.set_cons_zero, List.set_cons_succ, i64_w, i32_w]
               rfl
             refine take_ (i := 7) (N := some 24) (v := ?_) (a' := ?_) #[true, true, true, true, true, true, true, true, false, false] rfl rfl (take_ofW HT_.out HW_.out (by kernel_rfl)) (fun _ _ _ h => h) (Or.inl ⟨by rfl, ?_⟩) hHeld ?_ ?_
             rotate_left
             · rintro w' ⟨s0, s1, s2, s3, s4, s5, s6, s7, s8, s9, s10, s11⟩
               go_simp
               with_reducible rfl
             rotate_left
             · simp only [Act.put, List.setIfInBounds_toArray, List.set_cons_zero, List.set_cons_succ, i64_w, i32_w]
               rfl
             refine one_ (i := 8) (N := some 25) #[true, true, true, true, true, true, true, true, true, false] rfl rfl (one_of HT_.out (by kernel_rfl)) (by decide) (fun K hK => ?_)
             refine goes_ Tryz.func31 (by kernel_rfl) rfl #[.agg #[.string ((rd_T40 l0 x5_1).f0), .string ((rd_T40 l0 x5_1).f1), .int .i64 ((rd_T40 l0 x5_1).f2), .bool ((rd_T40 l0 x5_1).f3), .string ((rd_T40 l0 x5_1).f4), .slice A313_5 ((rd_T40 l0 x5_1).f5).length c313_5], .agg #[.string ((rd_T43 l1 x5_1).f0), .string ((rd_T43 l1 x5_1).f1), .int .i64 ((rd_T43 l1 x5_1).f2), .bool ((rd_T43 l1 x5_1).f3), .string ((rd_T43 l1 x5_1).f4), .slice A314_5 ((rd_T43 l1 x5_1).f5).length c314_5]] rfl rfl rfl (by ((try simp only [List.map_toArray, List.map_cons, List.map_nil]); (rfl))) ?_
             with_reducible refine (wicketlaw11_same.calls k1 ((rd_T40 l0 x5_1).f0) ((rd_T40 l0 x5_1).f1) ((rd_T40 l0 x5_1).f2) ((rd_T40 l0 x5_1).f3) ((rd_T40 l0 x5_1).f4) _ _ ((rd_T40 l0 x5_1).f5) ((rd_T43 l1 x5_1).f0) ((rd_T43 l1 x5_1).f1) ((rd_T43 l1 x5_1).f2) ((rd_T43 l1 x5_1).f3) ((rd_T43 l1 x5_1).f4) _ _ ((rd_T43 l1 x5_1).f5) true _ ?side1 ?side2 ?side3 ?side4 A7.out).mono ?_
             (case side1 => repeat (exact (Kd.C_below HR313_5.out HB.out)))
             (case side2 => exact HC313_5.out)
             (case side3 => repeat (exact (Kd.C_below HR314_5.out HB.out)))
             (case side4 => exact HC314_5.out)
             rintro e w10 ⟨rfl, hb⟩
             refine ⟨_, rfl, ?_⟩
             have n0_ := Aside0.mk (below_step HB.out hb)
             clear HB
             have HB := n0_
             clear n0_ hb
             refine hK.out _ _ ⟨((HB.out.cell (World.block_lt_of_cell? w _ hw313_0)).trans hw313_0), ((HB.out.cell (World.block_lt_of_cell? w _ hw313_1)).trans hw313_1), ((HB.out.cell (World.block_lt_of_cell? w _ hw313_2)).trans hw313_2), ((HB.out.cell (World.block_lt_of_cell? w _ hw313_3)).trans hw313_3), ((HB.out.cell (World.block_lt_of_cell? w _ hw313_4)).trans hw313_4), ((HB.out.cell (World.block_lt_of_cell? w _ hw313_5)).trans hw313_5), ((HB.out.cell (World.block_lt_of_cell? w _ hw314_0)).trans hw314_0), ((HB.out.cell (World.block_lt_of_cell? w _ hw314_1)).trans hw314_1), ((HB.out.cell (World.block_lt_of_cell? w _ hw314_2)).trans hw314_2), ((HB.out.cell (World.block_lt_of_cell? w _ hw314_3)).trans hw314_3), ((HB.out.cell (World.block_lt_of_cell? w _ hw314_4)).trans hw314_4), ((HB.out.cell (World.block_lt_of_cell? w _ hw314_5)).trans hw314_5)⟩ (fun hHeld => ?_)
             clear hK K
             refine norm_ (a' := ?_) ?_ ?_
             rotate_left
             · show Act.put _ (some 25) _ = _
               simp only [Act.put, List.setIfInBounds_toArray, List.set_cons_zero, List.set_cons_succ, i64_w, i32_w]
               rfl
             refine pure_ (i := 9) (N := some 26) (v := ?_) (a' := ?_) #[true, true, true, true, true, true, true, true, true, true] rfl rfl (any_of HT_.out (by kernel_rfl)) (fun _ _ _ h => h) (Or.inl ⟨by rfl, ?_⟩) ?_ ?_
             rotate_left
             · intro w'
               go_simp
               with_reducible rfl
             rotate_left
             · simp only [Act.put, List.setIfInBounds_toArray, List.set_cons_zero, List.set_cons_succ, i64_w, i32_w]
               rfl
             refine done_ (done_of HT_.out (by kernel_rfl)) ?_
             try go_wp2
             go_roundg k1
             case measure => have := HK1.out; omega
             case rel => exact ⟨(wrap64 (x5_1 + 1)), rfl, H', ⟨by have := HK1.out; omega⟩, ⟨HB.out⟩⟩
           · replace c8 := Bool.eq_false_iff.mpr c8
             subst c8
             have H1 : (some false) = some r := by rw [if_neg (show ¬ (false = true) by decide)] at H; exact H
             clear H
             have H := H1
             clear H1
             obtain rfl := Option.some.inj H
             try go_wp2
             have n0_ := Aside0.mk (below_drew1 HB.out)
             clear HB
             have HB := n0_
             clear n0_
             have p313 : 0 ≤ (x5_1 : Int) := of_decide_eq_true (by assumption)
             have q313 : x5_1 < (l0.length : Int) := of_decide_eq_true (by assumption)
             obtain ⟨ad313, A313_5, c313_5, e313, hx313_0, hx313_1, hx313_2, hx313_3, hx313_4, hx313_5, hl313_5, hi313_5⟩ := at_T40 HR0.out x5_1 p313 q313
             have hw313_5 := hx313_5
             have hw313_4 := hx313_4
             have hw313_3 := hx313_3
             have hw313_2 := hx313_2
             have hw313_1 := hx313_1
             have hw313_0 := hx313_0
             cases e313
             replace hx313_0 := (HB.out.cell (World.block_lt_of_cell? w _ hx313_0)).trans hx313_0
             replace hx313_1 := (HB.out.cell (World.block_lt_of_cell? w _ hx313_1)).trans hx313_1
             replace hx313_2 := (HB.out.cell (World.block_lt_of_cell? w _ hx313_2)).trans hx313_2
             replace hx313_3 := (HB.out.cell (World.block_lt_of_cell? w _ hx313_3)).trans hx313_3
             replace hx313_4 := (HB.out.cell (World.block_lt_of_cell? w _ hx313_4)).trans hx313_4
             replace hx313_5 := (HB.out.cell (World.block_lt_of_cell? w _ hx313_5)).trans hx313_5
             have HR313_5 := Aside0.mk hi313_5
             have HC313_5 := Aside0.mk hl313_5
             clear hi313_5 hl313_5
             replace p313 := eq_true p313
             replace q313 := eq_true q313
             have p314 : 0 ≤ (x5_1 : Int) := of_decide_eq_true (by assumption)
             have q314 : x5_1 < (l1.length : Int) := of_decide_eq_true (by assumption)
             obtain ⟨ad314, A314_5, c314_5, e314, hx314_0, hx314_1, hx314_2, hx314_3, hx314_4, hx314_5, hl314_5, hi314_5⟩ := at_T43 HR1.out x5_1 p314 q314
             have hw314_5 := hx314_5
             have hw314_4 := hx314_4
             have hw314_3 := hx314_3
             have hw314_2 := hx314_2
             have hw314_1 := hx314_1
             have hw314_0 := hx314_0
             cases e314
             replace hx314_0 := (HB.out.cell (World.block_lt_of_cell? w _ hx314_0)).trans hx314_0
             replace hx314_1 := (HB.out.cell (World.block_lt_of_cell? w _ hx314_1)).trans hx314_1
             replace hx314_2 := (HB.out.cell (World.block_lt_of_cell? w _ hx314_2)).trans hx314_2
             replace hx314_3 := (HB.out.cell (World.block_lt_of_cell? w _ hx314_3)).trans hx314_3
             replace hx314_4 := (HB.out.cell (World.block_lt_of_cell? w _ hx314_4)).trans hx314_4
             replace hx314_5 := (HB.out.cell (World.block_lt_of_cell? w _ hx314_5)).trans hx314_5
             have HR314_5 := Aside0.mk hi314_5
             have HC314_5 := Aside0.mk hl314_5
             clear hi314_5 hl314_5
             replace p314 := eq_true p314
             replace q314 := eq_true q314
             refine start_ (n := 10) (S := fun w' => w'.cell? (ad313.add ((x5_1).toNat * 6)) = some (.string ((rd_T40 l0 x5_1).f0)) ∧ w'.cell? ⟨(ad313.add ((x5_1).toNat * 6)).block, (ad313.add ((x5_1).toNat * 6)).off + 1, none⟩ = some (.string ((rd_T40 l0 x5_1).f1)) ∧ w'.cell? ⟨(ad313.add ((x5_1).toNat * 6)).block, (ad313.add ((x5_1).toNat * 6)).off + 2, none⟩ = some (.int .i64 ((rd_T40 l0 x5_1).f2)) ∧ w'.cell? ⟨(ad313.add ((x5_1).toNat * 6)).block, (ad313.add ((x5_1).toNat * 6)).off + 3, none⟩ = some (.bool ((rd_T40 l0 x5_1).f3)) ∧ w'.cell? ⟨(ad313.add ((x5_1).toNat * 6)).block, (ad313.add ((x5_1).toNat * 6)).off + 4, none⟩ = some (.string ((rd_T40 l0 x5_1).f4)) ∧ w'.cell? ⟨(ad313.add ((x5_1).toNat * 6)).block, (ad313.add ((x5_1).toNat * 6)).off + 5, none⟩ = some (.slice A313_5 ((rd_T40 l0 x5_1).f5).length c313_5) ∧ w'.cell? (ad314.add ((x5_1).toNat * 6)) = some (.string ((rd_T43 l1 x5_1).f0)) ∧ w'.cell? ⟨(ad314.add ((x5_1).toNat * 6)).block, (ad314.add ((x5_1).toNat * 6)).off + 1, none⟩ = some (.string ((rd_T43 l1 x5_1).f1)) ∧ w'.cell? ⟨(ad314.add ((x5_1).toNat * 6)).block, (ad314.add ((x5_1).toNat * 6)).off + 2, none⟩ = some (.int .i64 ((rd_T43 l1 x5_1).f2)) ∧ w'.cell? ⟨(ad314.add ((x5_1).toNat * 6)).block, (ad314.add ((x5_1).toNat * 6)).off + 3, none⟩ = some (.bool ((rd_T43 l1 x5_1).f3)) ∧ w'.cell? ⟨(ad314.add ((x5_1).toNat * 6)).block, (ad314.add ((x5_1).toNat * 6)).off + 4, none⟩ = some (.string ((rd_T43 l1 x5_1).f4)) ∧ w'.cell? ⟨(ad314.add ((x5_1).toNat * 6)).block, (ad314.add ((x5_1).toNat * 6)).off + 5, none⟩ = some (.slice A314_5 ((rd_T43 l1 x5_1).f5).length c314_5)) (ds := []) #[false, false, false, false, false, false, false, false, false, false] (by kernel_rfl) rfl rfl ⟨((HB.out.cell (World.block_lt_of_cell? w _ hw313_0)).trans hw313_0), ((HB.out.cell (World.block_lt_of_cell? w _ hw313_1)).trans hw313_1), ((HB.out.cell (World.block_lt_of_cell? w _ hw313_2)).trans hw313_2), ((HB.out.cell (World.block_lt_of_cell? w _ hw313_3)).trans hw313_3), ((HB.out.cell (World.block_lt_of_cell? w _ hw313_4)).trans hw313_4), ((HB.out.cell (World.block_lt_of_cell? w _ hw313_5)).trans hw313_5), ((HB.out.cell (World.block_lt_of_cell? w _ hw314_0)).trans hw314_0), ((HB.out.cell (World.block_lt_of_cell? w _ hw314_1)).trans hw314_1), ((HB.out.cell (World.block_lt_of_cell? w _ hw314_2)).trans hw314_2), ((HB.out.cell (World.block_lt_of_cell? w _ hw314_3)).trans hw314_3), ((HB.out.cell (World.block_lt_of_cell? w _ hw314_4)).trans hw314_4), ((HB.out.cell (World.block_lt_of_cell? w _ hw314_5)).trans hw314_5)⟩ (fun hHeld => ?_); refine with_tabW wicketlaw11_list.tab6 wicketlaw11_list.bits6 (fun HT_ HW_ => ?_)
             generalize wr.drew = w11 at HB HR313_5 HR314_5 hx313_0 hx313_1 hx313_2 hx313_3 hx313_4 hx313_5 hx314_0 hx314_1 hx314_2 hx314_3 hx314_4 hx314_5 hHeld ⊢
             refine pure_ (i := 0) (N := some 17) (v := ?_) (a' := ?_) #[true, false, false, false, false, false, false, false, false, false] rfl rfl (any_of HT_.out (by kernel_rfl)) (fun _ _ _ h => h) (Or.inl ⟨by rfl, ?_⟩) ?_ ?_
             rotate_left
             · intro w'
               go_simp
               with_reducible rfl
             rotate_left
             · simp only [Act.put, List.setIfInBounds_toArray, List.set_cons_zero, List.set_cons_succ, i64_w, i32_w]
               rfl
             refine pure_ (i := 1) (N := some 18) (v := ?_) (a' := ?_) #[true, true, false, false, false, false, false, false, false, false] rfl rfl (any_of HT_.out (by kernel_rfl)) (fun _ _ _ h => h) (Or.inl ⟨by rfl, ?_⟩) ?_ ?_
             rotate_left
             · intro w'
               go_simp
               with_reducible rfl
             rotate_left
             · simp only [Act.put, List.setIfInBounds_toArray, List.set_cons_zero, List.set_cons_succ, i64_w, i32_w]
               rfl
             refine pure_ (i := 2) (N := some 19) (v := ?_) (a' := ?_) #[true, true, true, false, false, false, false, false, false, false] rfl rfl (any_of HT_.out (by kernel_rfl)) (fun _ _ _ h => h) (Or.inl ⟨by rfl, ?_⟩) ?_ ?_
             rotate_left
             · intro w'
               go_simp
               with_reducible rfl
             rotate_left
             · simp only [Act.put, List.setIfInBounds_toArray, List.set_cons_zero, List.set_cons_succ, i64_w, i32_w]
               rfl
             refine pure_ (i := 4) (N := some 21) (v := ?_) (a' := ?_) #[true, true, true, false, true, false, false, false, false, false] rfl rfl (any_of HT_.out (by kernel_rfl)) (fun _ _ _ h => h) (Or.inl ⟨by rfl, ?_⟩) ?_ ?_
             rotate_left
             · intro w'
               go_simp
               with_reducible rfl
             rotate_left
             · simp only [Act.put, List.setIfInBounds_toArray, List.set_cons_zero, List.set_cons_succ, i64_w, i32_w]
               rfl
             refine pure_ (i := 5) (N := some 22) (v := ?_) (a' := ?_) #[true, true, true, false, true, true, false, false, false, false] rfl rfl (any_of HT_.out (by kernel_rfl)) (fun _ _ _ h => h) (Or.inl ⟨by rfl, ?_⟩) ?_ ?_
             rotate_left
             · intro w'
               go_simp
               with_reducible rfl
             rotate_left
             · simp only [Act.put, List.setIfInBounds_toArray, List.set_cons_zero, List.set_cons_succ, i64_w, i32_w]
               rfl
             refine pure_ (i := 6) (N := some 23) (v := ?_) (a' := ?_) #[true, true, true, false, true, true, true, false, false, false] rfl rfl (any_of HT_.out (by kernel_rfl)) (fun _ _ _ h => h) (Or.inl ⟨by rfl, ?_⟩) ?_ ?_
             rotate_left
             · intro w'
               go_simp
               with_reducible rfl
             rotate_left
             · simp only [Act.put, List.setIfInBounds_toArray, List.set_cons_zero, List.set_cons_succ, i64_w, i32_w]
               rfl
             refine take_ (i := 3) (N := some 20) (v := ?_) (a' := ?_) #[true, true, true, true, true, true, true, false, false, false] rfl rfl (take_ofW HT_.out HW_.out (by kernel_rfl)) (fun _ _ _ h => h) (Or.inl ⟨by rfl, ?_⟩) hHeld ?_ ?_
             rotate_left
             · rintro w' ⟨s0, s1, s2, s3, s4, s5, s6, s7, s8, s9, s10, s11⟩
               go_simp
               with_reducible rfl
             rotate_left
             · simp only [Act.put, List.setIfInBounds_toArray, List.set_cons_zero, List.set_cons_succ, i64_w, i32_w]
               rfl
             refine take_ (i := 7) (N := some 24) (v := ?_) (a' := ?_) #[true, true, true, true, true, true, true, true, false, false] rfl rfl (take_ofW HT_.out HW_.out (by kernel_rfl)) (fun _ _ _ h => h) (Or.inl ⟨by rfl, ?_⟩) hHeld ?_ ?_
             rotate_left
             · rintro w' ⟨s0, s1, s2, s3, s4, s5, s6, s7, s8, s9, s10, s11⟩
               go_simp
               with_reducible rfl
             rotate_left
             · simp only [Act.put, List.setIfInBounds_toArray, List.set_cons_zero, List.set_cons_succ, i64_w, i32_w]
               rfl
             refine one_ (i := 8) (N := some 25) #[true, true, true, true, true, true, true, true, true, false] rfl rfl (one_of HT_.out (by kernel_rfl)) (by decide) (fun K hK => ?_)
             refine goes_ Tryz.func31 (by kernel_rfl) rfl #[.agg #[.string ((rd_T40 l0 x5_1).f0), .string ((rd_T40 l0 x5_1).f1), .int .i64 ((rd_T40 l0 x5_1).f2), .bool ((rd_T40 l0 x5_1).f3), .string ((rd_T40 l0 x5_1).f4), .slice A313_5 ((rd_T40 l0 x5_1).f5).length c313_5], .agg #[.string ((rd_T43 l1 x5_1).f0), .string ((rd_T43 l1 x5_1).f1), .int .i64 ((rd_T43 l1 x5_1).f2), .bool ((rd_T43 l1 x5_1).f3), .string ((rd_T43 l1 x5_1).f4), .slice A314_5 ((rd_T43 l1 x5_1).f5).length c314_5]] rfl rfl rfl (by ((try simp only [List.map_toArray, List.map_cons, List.map_nil]); (rfl))) ?_
             with_reducible refine (wicketlaw11_same.calls k1 ((rd_T40 l0 x5_1).f0) ((rd_T40 l0 x5_1).f1) ((rd_T40 l0 x5_1).f2) ((rd_T40 l0 x5_1).f3) ((rd_T40 l0 x5_1).f4) _ _ ((rd_T40 l0 x5_1).f5) ((rd_T43 l1 x5_1).f0) ((rd_T43 l1 x5_1).f1) ((rd_T43 l1 x5_1).f2) ((rd_T43 l1 x5_1).f3) ((rd_T43 l1 x5_1).f4) _ _ ((rd_T43 l1 x5_1).f5) false _ ?side1 ?side2 ?side3 ?side4 A7.out).mono ?_
             (case side1 => repeat (exact (Kd.C_below HR313_5.out HB.out)))
             (case side2 => exact HC313_5.out)
             (case side3 => repeat (exact (Kd.C_below HR314_5.out HB.out)))
             (case side4 => exact HC314_5.out)
             rintro e w12 ⟨rfl, hb⟩
             refine ⟨_, rfl, ?_⟩
             have n0_ := Aside0.mk (below_step HB.out hb)
             clear HB
             have HB := n0_
             clear n0_ hb
             refine hK.out _ _ ⟨((HB.out.cell (World.block_lt_of_cell? w _ hw313_0)).trans hw313_0), ((HB.out.cell (World.block_lt_of_cell? w _ hw313_1)).trans hw313_1), ((HB.out.cell (World.block_lt_of_cell? w _ hw313_2)).trans hw313_2), ((HB.out.cell (World.block_lt_of_cell? w _ hw313_3)).trans hw313_3), ((HB.out.cell (World.block_lt_of_cell? w _ hw313_4)).trans hw313_4), ((HB.out.cell (World.block_lt_of_cell? w _ hw313_5)).trans hw313_5), ((HB.out.cell (World.block_lt_of_cell? w _ hw314_0)).trans hw314_0), ((HB.out.cell (World.block_lt_of_cell? w _ hw314_1)).trans hw314_1), ((HB.out.cell (World.block_lt_of_cell? w _ hw314_2)).trans hw314_2), ((HB.out.cell (World.block_lt_of_cell? w _ hw314_3)).trans hw314_3), ((HB.out.cell (World.block_lt_of_cell? w _ hw314_4)).trans hw314_4), ((HB.out.cell (World.block_lt_of_cell? w _ hw314_5)).trans hw314_5)⟩ (fun hHeld => ?_)
             clear hK K
             refine norm_ (a' := ?_) ?_ ?_
             rotate_left
             · show Act.put _ (some 25) _ = _
               simp only [Act.put, List.setIfInBounds_toArray, List.set_cons_zero, List.set_cons_succ, i64_w, i32_w]
               rfl
             refine pure_ (i := 9) (N := some 26) (v := ?_) (a' := ?_) #[true, true, true, true, true, true, true, true, true, true] rfl rfl (any_of HT_.out (by kernel_rfl)) (fun _ _ _ h => h) (Or.inl ⟨by rfl, ?_⟩) ?_ ?_
             rotate_left
             · intro w'
               go_simp
               with_reducible rfl
             rotate_left
             · simp only [Act.put, List.setIfInBounds_toArray, List.set_cons_zero, List.set_cons_succ, i64_w, i32_w]
               rfl
             refine done_ (done_of HT_.out (by kernel_rfl)) ?_
             try go_wp2
             go_ret
             exact ⟨by (rfl), by (with_reducible exact HB.out)⟩
         · rw [if_neg c6] at H
           exact absurd H (by simp)
       · rw [if_neg c5] at H
         exact absurd H (by simp)
     · rw [if_neg c4] at H
       have c4b0 : decide (x5_1 < (l0.length : Int)) = false := decide_eq_false c4
       clear c4
       obtain rfl := Option.some.inj H
       go_wp2
       go_ret
       exact ⟨by (rfl), by (with_reducible exact HB.out)⟩
 · rw [if_neg c3] at H
   have c3b0 : ((l0.length : Int) == (l1.length : Int)) = false := beq_eq_false_iff_ne.mpr c3
   have c3b1 : ((l0.length : Int) != (l1.length : Int)) = true := bne_iff_ne.mpr c3
   have c3b2 : (l0.length == l1.length) = false := by (simp at c3 ⊢; omega)
   obtain rfl := Option.some.inj H
   go_enter Tryz.func20, Tryz.ntmps20
   go_wp2
   go_ret
   exact ⟨by (rfl), by (with_reducible exact HB.out)⟩
end Go.Proofs.YtmimipgmhgalaaaGreatDoor.PAll
end
section
namespace Go.Proofs.YtmimipgmhgalaaaGreatDoor.PAll
open Go.RowKit Go.Proofs.YtmimipgmhgalaaaGreatDoorW.PrintWords Go.Proofs.YtmimipgmhgalaaaGreatDoorW.PrintLast Go.Proofs.YtmimipgmhgalaaaGreatDoorW.PrintMore
attribute [local go_sem] max2_int min2_int max_two min_two max_three min_three max_four min_four
set_option linter.unusedVariables false
set_option linter.unusedSimpArgs false
def wicketref11_Find.l0 : Nat → List (S43) → ByteArray → Int → Option (ByteArray × ByteArray × Int × Bool × ByteArray × List ByteArray × Bool)
 | 0, _, _, _ => none
 | k + 1, x0, x1, x6 => if x6 < (x0.length : Int) then (if 0 ≤ x6 then (if ((rd_T43 x0 x6).f0).toList = x1.toList then (some ((rd_T43 x0 x6).f0, (rd_T43 x0 x6).f1, (rd_T43 x0 x6).f2, (rd_T43 x0 x6).f3, (rd_T43 x0 x6).f4, (rd_T43 x0 x6).f5, true)) else (wicketref11_Find.l0 k x0 x1 (wrap64 (x6 + 1)))) else (none)) else (some ((⟨#[]⟩ : ByteArray), (⟨#[]⟩ : ByteArray), 0, false, (⟨#[]⟩ : ByteArray), ([] : List ByteArray), false))
def wicketref11_Find.f (k : Nat) (l0 : List (S43)) (a1 : ByteArray) : Option (ByteArray × ByteArray × Int × Bool × ByteArray × List ByteArray × Bool) := wicketref11_Find.l0 k l0 a1 0
end Go.Proofs.YtmimipgmhgalaaaGreatDoor.PAll
end
section
namespace Go.Proofs.YtmimipgmhgalaaaGreatDoor.Pure
open Go.RowKit Go.Proofs.YtmimipgmhgalaaaGreatDoorW.PrintWords Go.Proofs.YtmimipgmhgalaaaGreatDoor.Plain Go.Proofs.YtmimipgmhgalaaaGreatDoor.PAll
set_option linter.unusedSimpArgs false
set_option linter.unusedVariables false
abbrev CC := S40
abbrev CR := S43
def toR (x : CC) : CR := ⟨x.f0, x.f1, x.f2, x.f3, x.f4, x.f5⟩
def SmallC (l : List CC) : Prop := l.length ≤ 1599289640400 ∧ ∀ x ∈ l, x.f5.length ≤ 4000000000000
theorem ours_q (i s : ByteArray) (gr : Int) (pg : Bool) (u : ByteArray) (sc : List ByteArray) (h : sc.length ≤ 4000000000000) : wicketlaw11_ours.f i s gr pg u sc = some (i, s, gr, pg, u, sc) := by
  unfold wicketlaw11_ours.f
  rw [Option.bind_some, if_pos (by simp; omega)]
  rfl
theorem theirs_q (i s : ByteArray) (gr : Int) (pg : Bool) (u : ByteArray) (sc : List ByteArray) (h : sc.length ≤ 4000000000000) : wicketlaw11_theirs.f i s gr pg u sc = some (i, s, gr, pg, u, sc) := by
  unfold wicketlaw11_theirs.f
  rw [Option.bind_some, if_pos (by simp; omega)]
  rfl
theorem rdC (l : List CC) (i : Nat) (h : i < l.length) : rd_T40 l (i : Int) = l[i] := by
  unfold rd_T40; rw [Int.toNat_natCast, List.getD_eq_getElem?_getD, List.getElem?_eq_getElem h]; rfl
theorem rdR (l : List CR) (i : Nat) (h : i < l.length) : rd_T43 l (i : Int) = l[i] := by
  unfold rd_T43; rw [Int.toNat_natCast, List.getD_eq_getElem?_getD, List.getElem?_eq_getElem h]; rfl
theorem take_snoc {α : Type} (l : List α) (i : Nat) (h : i < l.length) : l.take i ++ [l[i]] = l.take (i + 1) := by rw [List.take_add_one, List.getElem?_eq_getElem h]; rfl
theorem copied_ev (l : List CC) (hl : SmallC l) : Ev (fun k => wicketlaw11_copied.f k l) l := by
  have h : ∀ (m i : Nat), i + m = l.length → Ev (fun k => wicketlaw11_copied.l0 k l (l.take i) (i : Int)) l := by
    intro m
    induction m with
    | zero =>
      intro i hi
      refine Ev.step (f := fun _ => some l) (fun k => ?_) (Ev.now _)
      simp only [wicketlaw11_copied.l0]; rw [if_neg (by omega), List.take_of_length_le (by omega)]
    | succ m ih =>
      intro i hi
      have hlt : i < l.length := by omega
      have h1 := hl.1
      refine Ev.step (f := fun k => wicketlaw11_copied.l0 k l (l.take (i + 1)) ((i + 1 : Nat) : Int)) (fun k => ?_) (ih (i + 1) (by omega))
      simp only [wicketlaw11_copied.l0]
      rw [if_pos (by omega), if_pos (by omega), rdC _ _ hlt, ours_q _ _ _ _ _ _ (hl.2 _ (List.getElem_mem hlt)), Option.bind_some, theirs_q _ _ _ _ _ _ (hl.2 _ (List.getElem_mem hlt)), Option.bind_some, if_pos (by rw [List.length_take]; omega), w64 (by omega) (by omega), ← take_snoc l i hlt]
      rfl
  exact h l.length 0 (by omega)
theorem all_ev (l : List CC) (hl : SmallC l) : Ev (fun k => wicketlaw11_all.f k l) (l.map toR) := by
  have h : ∀ (m i : Nat), i + m = l.length → Ev (fun k => wicketlaw11_all.l0 k l ((l.take i).map toR) (i : Int)) (l.map toR) := by
    intro m
    induction m with
    | zero =>
      intro i hi
      refine Ev.step (f := fun _ => some (l.map toR)) (fun k => ?_) (Ev.now _)
      simp only [wicketlaw11_all.l0]; rw [if_neg (by omega), List.take_of_length_le (by omega)]
    | succ m ih =>
      intro i hi
      have hlt : i < l.length := by omega
      have h1 := hl.1
      refine Ev.step (f := fun k => wicketlaw11_all.l0 k l ((l.take (i + 1)).map toR) ((i + 1 : Nat) : Int)) (fun k => ?_) (ih (i + 1) (by omega))
      simp only [wicketlaw11_all.l0]
      rw [if_pos (by omega), if_pos (by omega), rdC _ _ hlt, ours_q _ _ _ _ _ _ (hl.2 _ (List.getElem_mem hlt)), Option.bind_some, if_pos (by rw [List.length_map, List.length_take]; omega), w64 (by omega) (by omega), ← take_snoc l i hlt, List.map_append]
      rfl
  exact h l.length 0 (by omega)
theorem same_ev (i s : ByteArray) (gr : Int) (pg : Bool) (u : ByteArray) (sc : List ByteArray) (hs : sc.length ≤ 4000000000000) : Ev (fun k => wicketlaw11_same.f k i s gr pg u sc i s gr pg u sc) true := by
  have h : ∀ (m j : Nat), j + m = sc.length → Ev (fun k => wicketlaw11_same.l0 k (j : Int) i s gr pg u sc i s gr pg u sc) true := by
    intro m
    induction m with
    | zero =>
      intro j hj
      refine Ev.step (f := fun _ => some true) (fun k => ?_) (Ev.now _)
      simp only [wicketlaw11_same.l0]; rw [if_neg (by omega)]
    | succ m ih =>
      intro j hj
      have hlt : j < sc.length := by omega
      refine Ev.step (f := fun k => wicketlaw11_same.l0 k ((j + 1 : Nat) : Int) i s gr pg u sc i s gr pg u sc) (fun k => ?_) (ih (j + 1) (by omega))
      simp only [wicketlaw11_same.l0]
      rw [if_pos (by omega), if_pos (by omega), if_pos (by omega), if_true, w64 (by omega) (by omega)]
      rfl
  unfold wicketlaw11_same.f
  simp only [if_true, bne_self_eq_false, if_false, Bool.false_eq_true]
  refine Ev.step (f := fun k => wicketlaw11_same.l0 k (0 : Int) i s gr pg u sc i s gr pg u sc) (fun k => ?_) (h sc.length 0 (by omega))
  simp only [wicketlaw11_same.j0, Bool.false_eq_true, if_false]
theorem list_ev (l : List CC) (hl : SmallC l) : Ev (fun k => wicketlaw11_list.f k l (l.map toR)) true := by
  have h : ∀ (m i : Nat), i + m = l.length → Ev (fun k => wicketlaw11_list.l0 k l (l.map toR) (i : Int)) true := by
    intro m
    induction m with
    | zero =>
      intro i hi
      refine Ev.step (f := fun _ => some true) (fun k => ?_) (Ev.now _)
      simp only [wicketlaw11_list.l0]; rw [if_neg (by omega)]
    | succ m ih =>
      intro i hi
      have hlt : i < l.length := by omega
      have h1 := hl.1
      refine Ev.step (f := fun k => (wicketlaw11_same.f k (l[i]).f0 (l[i]).f1 (l[i]).f2 (l[i]).f3 (l[i]).f4 (l[i]).f5 (l[i]).f0 (l[i]).f1 (l[i]).f2 (l[i]).f3 (l[i]).f4 (l[i]).f5).bind fun t => if t = true then wicketlaw11_list.l0 k l (l.map toR) ((i + 1 : Nat) : Int) else some false) (fun k => ?_) ?_
      · simp only [wicketlaw11_list.l0]
        rw [if_pos (by omega), if_pos (by omega), if_pos (by rw [List.length_map]; omega), rdC _ _ hlt, rdR _ _ (by rw [List.length_map]; omega), List.getElem_map, w64 (by omega) (by omega)]
        rfl
      · exact Ev.bind (same_ev _ _ _ _ _ _ (hl.2 _ (List.getElem_mem hlt))) (Ev.pos rfl (ih (i + 1) (by omega)))
  unfold wicketlaw11_list.f
  exact Ev.pos (by rw [List.length_map]) (h l.length 0 (by omega))
def zeroC : CC := ⟨⟨#[]⟩, ⟨#[]⟩, 0, false, ⟨#[]⟩, []⟩
def foundC (a : ByteArray) : List CC → CC × Bool
  | [] => (zeroC, false)
  | x :: r => if x.f0.toList = a.toList then (x, true) else foundC a r
theorem find_ev (l : List CC) (hl : SmallC l) (a : ByteArray) : Ev (fun k => client_Find.f k l a) ((foundC a l).1.f0, (foundC a l).1.f1, (foundC a l).1.f2, (foundC a l).1.f3, (foundC a l).1.f4, (foundC a l).1.f5, (foundC a l).2) := by
  have h : ∀ (m i : Nat), i + m = l.length → Ev (fun k => client_Find.l0 k a l (l.length : Int) (i : Int)) ((foundC a (l.drop i)).1.f0, (foundC a (l.drop i)).1.f1, (foundC a (l.drop i)).1.f2, (foundC a (l.drop i)).1.f3, (foundC a (l.drop i)).1.f4, (foundC a (l.drop i)).1.f5, (foundC a (l.drop i)).2) := by
    intro m
    induction m with
    | zero =>
      intro i hi
      refine Ev.step (f := fun _ => some _) (fun k => ?_) (Ev.now _)
      simp only [client_Find.l0]; rw [if_neg (by omega), List.drop_eq_nil_of_le (by omega)]; rfl
    | succ m ih =>
      intro i hi
      have hlt : i < l.length := by omega
      have h1 := hl.1
      have h2 := hl.2 _ (List.getElem_mem hlt)
      have e : l.drop i = l[i] :: l.drop (i + 1) := List.drop_eq_getElem_cons hlt
      by_cases hx : (l[i]).f0.toList = a.toList
      · refine Ev.step (f := fun _ => some _) (fun k => ?_) (Ev.now _)
        simp only [client_Find.l0]
        rw [if_pos (by omega), if_pos (by omega), if_pos (by omega), rdC _ _ hlt, if_pos hx, e]
        unfold client_copied.f slices_Clone_string_string.f
        rw [if_pos (by omega)]
        simp only [foundC, if_pos hx]
        rfl
      · have hn := ih (i + 1) (by omega)
        refine Ev.step (f := fun k => client_Find.l0 k a l (l.length : Int) ((i + 1 : Nat) : Int)) (fun k => ?_) ?_
        · simp only [client_Find.l0]
          rw [if_pos (by omega), if_pos (by omega), if_pos (by omega), rdC _ _ hlt, if_neg hx, w64 (by omega) (by omega)]
          rfl
        · rw [e]
          simp only [foundC, if_neg hx]
          exact hn
  exact h l.length 0 (by omega)
theorem rfind_ev (l : List CC) (hl : SmallC l) (a : ByteArray) : Ev (fun k => wicketref11_Find.f k (l.map toR) a) ((foundC a l).1.f0, (foundC a l).1.f1, (foundC a l).1.f2, (foundC a l).1.f3, (foundC a l).1.f4, (foundC a l).1.f5, (foundC a l).2) := by
  have h : ∀ (m i : Nat), i + m = l.length → Ev (fun k => wicketref11_Find.l0 k (l.map toR) a (i : Int)) ((foundC a (l.drop i)).1.f0, (foundC a (l.drop i)).1.f1, (foundC a (l.drop i)).1.f2, (foundC a (l.drop i)).1.f3, (foundC a (l.drop i)).1.f4, (foundC a (l.drop i)).1.f5, (foundC a (l.drop i)).2) := by
    intro m
    induction m with
    | zero =>
      intro i hi
      refine Ev.step (f := fun _ => some _) (fun k => ?_) (Ev.now _)
      simp only [wicketref11_Find.l0]; rw [if_neg (by rw [List.length_map]; omega), List.drop_eq_nil_of_le (by omega)]; rfl
    | succ m ih =>
      intro i hi
      have hlt : i < l.length := by omega
      have h1 := hl.1
      have e : l.drop i = l[i] :: l.drop (i + 1) := List.drop_eq_getElem_cons hlt
      have hr : rd_T43 (l.map toR) (i : Int) = toR l[i] := by rw [rdR _ _ (by rw [List.length_map]; omega), List.getElem_map]
      by_cases hx : (l[i]).f0.toList = a.toList
      · refine Ev.step (f := fun _ => some _) (fun k => ?_) (Ev.now _)
        simp only [wicketref11_Find.l0]
        rw [if_pos (by rw [List.length_map]; omega), if_pos (by omega), hr, if_pos (show (toR l[i]).f0.toList = a.toList from hx), e]
        simp only [foundC, if_pos hx]
        rfl
      · have hn := ih (i + 1) (by omega)
        refine Ev.step (f := fun k => wicketref11_Find.l0 k (l.map toR) a ((i + 1 : Nat) : Int)) (fun k => ?_) ?_
        · simp only [wicketref11_Find.l0]
          rw [if_pos (by rw [List.length_map]; omega), if_pos (by omega), hr, if_neg (show ¬ (toR l[i]).f0.toList = a.toList from hx), w64 (by omega) (by omega)]
          rfl
        · rw [e]
          simp only [foundC, if_neg hx]
          exact hn
  exact h l.length 0 (by omega)
def weightC (y : CC) : Nat := ((y.f0.size + 1) + (y.f1.size + 1) + 1 + 1 + (y.f4.size + 1) + ((y.f5.map fun y => (y.size + 1)).sum + 1) + 1)
theorem sum_names (l : List ByteArray) : l.length ≤ (l.map fun y => (y.size + 1)).sum := by
  induction l with
  | nil => simp
  | cons x r ih => simp only [List.map_cons, List.sum_cons, List.length_cons]; omega
theorem weight_ge (x : CC) : x.f5.length + 1 ≤ weightC x := by
  have := sum_names x.f5
  unfold weightC
  omega
theorem weight_mem (l : List CC) : l.length ≤ (l.map weightC).sum ∧ ∀ x ∈ l, weightC x ≤ (l.map weightC).sum := by
  induction l with
  | nil => simp
  | cons x r ih =>
    simp only [List.map_cons, List.sum_cons, List.length_cons]
    refine ⟨by have := ih.1; have := weight_ge x; omega, fun y hy => ?_⟩
    rcases List.mem_cons.1 hy with rfl | hy
    · omega
    · have := ih.2 y hy; omega
theorem smallC_of (l : List CC) (n : Nat) (h : (l.map weightC).sum ≤ n) (hn : n ≤ 1048576) : SmallC l := by
  have h1 := weight_mem l
  refine ⟨by have := h1.1; omega, fun x hx => ?_⟩
  have h2 := h1.2 x hx
  have h3 := weight_ge x
  omega
end Go.Proofs.YtmimipgmhgalaaaGreatDoor.Pure
end
section
namespace Go.Proofs.YtmimipgmhgalaaaGreatDoor.PAll
open Go.RowKit Go.Proofs.YtmimipgmhgalaaaGreatDoorW.PrintWords Go.Proofs.YtmimipgmhgalaaaGreatDoorW.PrintLast Go.Proofs.YtmimipgmhgalaaaGreatDoorW.PrintMore
attribute [local go_sem] max2_int min2_int max_two min_two max_three min_three max_four min_four
set_option linter.unusedVariables false
set_option linter.unusedSimpArgs false
mutual
def wicketref11_Parse.l0 : Nat → ByteArray → List (S43) → Int → Int → Int → Option ((List (S43)) × Int × Int)
 | 0, _, _, _, _, _ => none
 | k + 1, x0, x5, x6, x7, x8 => if x8 ≤ (x0.size : Int) then (if x8 < (x0.size : Int) then (if 0 ≤ x8 then (wicketref11_Parse.j1 k x0 x5 x6 x7 x8 ((bt x0 x8) != 10)) else (none)) else (wicketref11_Parse.j1 k x0 x5 x6 x7 x8 false)) else (some (x5, 0, 0))
def wicketref11_Parse.j1 : Nat → ByteArray → List (S43) → Int → Int → Int → Bool → Option ((List (S43)) × Int × Int)
 | 0, _, _, _, _, _, _ => none
 | k + 1, x0, x5, x6, x7, x8, x32 => if x32 = true then (wicketref11_Parse.l0 k x0 x5 x6 x7 (wrap64 (x8 + 1))) else (if 0 ≤ x7 then (if x7 ≤ x8 then (if x8 ≤ (x0.size : Int) then (if (x0.extract (x7 : Int).toNat (x8 : Int).toNat).toList = ([] : List UInt8) then (wicketref11_Parse.j2 k x0 x5 (wrap64 (x6 + 1)) (wrap64 (x8 + 1)) x8 (x0.extract (x7 : Int).toNat (x8 : Int).toNat) true) else (if 0 < ((x0.extract (x7 : Int).toNat (x8 : Int).toNat).size : Int) then (wicketref11_Parse.j2 k x0 x5 (wrap64 (x6 + 1)) (wrap64 (x8 + 1)) x8 (x0.extract (x7 : Int).toNat (x8 : Int).toNat) ((bt (x0.extract (x7 : Int).toNat (x8 : Int).toNat) 0) == 35)) else (none))) else (none)) else (none)) else (none))
def wicketref11_Parse.j2 : Nat → ByteArray → List (S43) → Int → Int → Int → ByteArray → Bool → Option ((List (S43)) × Int × Int)
 | 0, _, _, _, _, _, _, _ => none
 | k + 1, x0, x5, x6, x7, x8, x9, x47 => if x47 = true then (wicketref11_Parse.l0 k x0 x5 x6 x7 (wrap64 (x8 + 1))) else ((wicketref11_line.f x9).bind fun bt409 => (if bt409.2.2.2.2.2.2 = true then ((wicketref11_Find.f k x5 bt409.1).bind fun bt419 => (if bt419.2.2.2.2.2.2 = true then (some (([] : List (S43)), 8, x6)) else (if (x5.length : Int) = 256 then (some (([] : List (S43)), 32, x6)) else (if x5.length < 1599289640401 then (wicketref11_Parse.l0 k x0 (x5 ++ [(⟨bt409.1, bt409.2.1, bt409.2.2.1, bt409.2.2.2.1, bt409.2.2.2.2.1, bt409.2.2.2.2.2.1⟩ : S43)]) x6 x7 (wrap64 (x8 + 1))) else (none))))) else (some (([] : List (S43)), 110, x6))))
end
end Go.Proofs.YtmimipgmhgalaaaGreatDoor.PAll
end
section
namespace Go.Proofs.YtmimipgmhgalaaaGreatDoor.Pure
open Go.RowKit Go.Proofs.YtmimipgmhgalaaaGreatDoorW.PrintWords Go.Proofs.YtmimipgmhgalaaaGreatDoor.Plain Go.Proofs.YtmimipgmhgalaaaGreatDoor.Spec Go.Proofs.YtmimipgmhgalaaaGreatDoor.PAll
set_option linter.unusedSimpArgs false
set_option linter.unusedVariables false
theorem parseL_sizes (W : Nat) : ∀ (ps : List (List UInt8)) (i : Nat) (acc : List (ByteArray × ByteArray)), (∀ p ∈ ps, p.length ≤ W) → (∀ x ∈ acc, x.1.size ≤ W ∧ x.2.size ≤ W) → ∀ x ∈ (parseL ps i acc).1, x.1.size ≤ W ∧ x.2.size ≤ W
  | [], i, acc, _, ha => ha
  | p :: r, i, acc, hp, ha => by
    rw [parseL_cons]
    have hr : ∀ q ∈ r, q.length ≤ W := fun q hq => hp q (List.mem_cons_of_mem _ hq)
    by_cases h1 : p = []
    · rw [if_pos h1]; exact parseL_sizes W r _ _ hr ha
    · rw [if_neg h1]
      by_cases h2 : acc.length = 64
      · rw [if_pos h2]; intro x hx; cases hx
      · rw [if_neg h2]
        by_cases h3 : (pairP i p).2.1 = 0
        · rw [if_pos h3]
          refine parseL_sizes W r _ _ hr fun x hx => ?_
          rcases List.mem_append.1 hx with hx | hx
          · exact ha x hx
          · rw [List.mem_singleton] at hx
            subst hx
            have hc := cutL_len 61 p
            have hpw := hp p List.mem_cons_self
            have u1 := unescL_place (cutL 61 p).1.length (cutL 61 p).1 (Nat.le_refl _) 0 []
            have u2 := unescL_place (cutL 61 p).2.1.length (cutL 61 p).2.1 (Nat.le_refl _) 0 []
            unfold pairP
            simp only [List.length_nil] at u1 u2
            split
            · split
              · simp only [bs_size]; omega
              · exact ⟨Nat.zero_le _, Nat.zero_le _⟩
            · exact ⟨Nat.zero_le _, Nat.zero_le _⟩
        · rw [if_neg h3]; intro x hx; cases hx
theorem parse_sizes (s : List UInt8) : ∀ x ∈ (parse s).1, x.1.size ≤ 16384 ∧ x.2.size ≤ 16384 := by
  by_cases h : s.length > 16384
  · unfold parse; rw [if_pos h]; simp
  · unfold parse; rw [if_neg h]
    refine parseL_sizes 16384 _ _ _ (fun p hp => ?_) (by simp)
    have := widthL_mem _ _ hp
    rw [splitL_width] at this; omega
theorem lastV_size (n : ByteArray) (s : List UInt8) : (lastV n ((parse s).1.map mk34) ⟨#[]⟩).size ≤ 16384 := by
  rcases lastV_mem n ((parse s).1.map mk34) ⟨#[]⟩ with h | ⟨p, hp, hn, h⟩
  · rw [h]; decide
  · rw [h]; obtain ⟨q, hq, rfl⟩ := List.mem_map.1 hp; exact (parse_sizes s q hq).2
theorem sumj_len (l : List ByteArray) : (joinedL l).length ≤ (l.map fun y => (y.size + 1)).sum := by
  have h2 : ∀ r : List ByteArray, (Lib.joinTail [32] (r.map (·.data.toList))).length ≤ (r.map fun y => (y.size + 1)).sum := by
    intro r
    induction r with
    | nil => simp [Lib.joinTail]
    | cons x r ih =>
      have e : (Lib.joinTail [32] ((x :: r).map (·.data.toList))).length = 1 + x.data.toList.length + (Lib.joinTail [32] (r.map (·.data.toList))).length := by
        unfold Lib.joinTail
        rw [List.map_cons, List.map_cons, List.flatten_cons, List.length_append, List.length_append]
        rfl
      have hx : x.data.toList.length = x.size := data_len _
      rw [e]
      simp only [List.map_cons, List.sum_cons]
      omega
  cases l with
  | nil => simp [joinedL, Lib.join_nil]
  | cons x r =>
    have h3 := h2 r
    have hx : x.data.toList.length = x.size := data_len _
    unfold joinedL
    rw [List.map_cons, Lib.join_cons, List.length_append]
    simp only [List.map_cons, List.sum_cons]
    omega
theorem sum_le_mul {α : Type} (g : α → Nat) (b : Nat) : ∀ l : List α, (∀ x ∈ l, g x ≤ b) → (l.map g).sum ≤ l.length * b
  | [], _ => by simp
  | x :: r, h => by
    have h1 := sum_le_mul g b r (fun y hy => h y (by simp [hy]))
    have h2 := h x (by simp)
    simp only [List.map_cons, List.sum_cons, List.length_cons, Nat.succ_mul]
    omega
theorem sL_len (v : ByteArray) : (sL v).length ≤ 32 := by unfold sL; rw [List.length_map]; exact scopesL_len _
theorem sL_join (a : ByteArray) : (joinedL (sL a)).length ≤ 10000 := by
  by_cases h : (scopesL a.data.toList).2 = 0
  · have hf := (scopesL_facts _ h).2
    have h1 := sumj_len (sL a)
    have h2 := sum_le_mul (fun y : ByteArray => y.size + 1) 257 (sL a) (fun x hx => by
      unfold sL at hx
      obtain ⟨p, hp, rfl⟩ := List.mem_map.1 hx
      rw [bs_size]
      have := (hf p hp).2
      omega)
    have h4 : (sL a).length * 257 ≤ 32 * 257 := Nat.mul_le_mul_right _ (sL_len a)
    omega
  · unfold sL
    rw [scopesL_err _ h]
    simp [joinedL, Lib.join_nil]
theorem ref_small (s : List UInt8) : smallB (refC ((parse s).1.map mk34)) = true := by
  have h1 := lastV_size nId s
  have h2 := lastV_size nSecret s
  have h3 := lastV_size nUrl s
  have h4 := sL_len (lastV nScope ((parse s).1.map mk34) ⟨#[]⟩)
  have h5 := sL_join (lastV nScope ((parse s).1.map mk34) ⟨#[]⟩)
  unfold smallB refC
  exact decide_eq_true ⟨Nat.le_trans h1 (by decide), Nat.le_trans h2 (by decide), Nat.le_trans h3 (by decide), Nat.le_trans h4 (by decide), Nat.le_trans h5 (by decide)⟩
theorem line_prog (p : List UInt8) (hp : p.length ≤ 65536) : ∃ c : ClT, client_parseLine.f (bs p) = some (flatC (c, (refLineS p).2)) ∧ ((refLineS p).2 = true → c = (refLineS p).1) := by
  unfold client_parseLine.f
  rw [if_pos (by rw [bs_size]; omega), bs_data]
  by_cases he : (parse p).2.1 = 0
  · rw [if_pos he]
    have hs := ref_small p
    obtain ⟨L, hL⟩ : ∃ L, (parse p).1.map mk34 = L := ⟨_, rfl⟩
    have hR : refLineS p = if refOkB L = true then (refC L, true) else (zC, false) := by
      unfold refLineS
      rw [hL]
      by_cases hk : refOkB L = true
      · rw [if_pos ⟨he, hk⟩, if_pos hk]
      · rw [if_neg (fun h => hk h.2), if_neg hk]
    rw [hL] at hs ⊢
    have hc : ∃ c b, lineL L [] zC = some (c, b) := by
      rcases lineL_good L [] zC with ⟨hg, he⟩ | ⟨hg, c', he⟩
      · rw [fold_ref L hg, if_pos hs] at he; exact ⟨_, _, he⟩
      · exact ⟨_, _, he⟩
    obtain ⟨c, b, hc⟩ := hc
    have hls := line_same L c b hc
    rw [hc, hR]
    cases b with
    | true => have := hls.1 rfl; rw [if_pos ((refOkB_iff L).2 this.1)]; exact ⟨c, rfl, fun _ => this.2⟩
    | false => have := hls.2 rfl; rw [if_neg (fun h => this ((refOkB_iff L).1 h))]; exact ⟨c, rfl, fun h => by cases h⟩
  · rw [if_neg he]
    have : refLineS p = (zC, false) := by unfold refLineS; rw [if_neg (fun h => he h.1)]
    rw [this]
    exact ⟨zC, rfl, fun h => by cases h⟩
theorem refLine_sc (p : List UInt8) : (refLineS p).1.sc.length ≤ 32 := by
  unfold refLineS
  split
  · exact sL_len _
  · exact Nat.zero_le _
def mkC (c : ClT) : CC := ⟨c.i, c.s, c.gr, c.pg, c.u, c.sc⟩
def noteB : List UInt8 → Bool
  | [] => true
  | c :: _ => (c.toNat : Int) == 35
def regL : List (List UInt8) → Nat → List CC → List CC × Int × Int
  | [], _, acc => (acc, 0, 0)
  | p :: r, n, acc => if noteB p = true then regL r (n + 1) acc else if (refLineS p).2 = true then (if (foundC (refLineS p).1.i acc).2 = true then ([], 8, ((n + 1 : Nat) : Int)) else if acc.length = 256 then ([], 32, ((n + 1 : Nat) : Int)) else regL r (n + 1) (acc ++ [mkC (refLineS p).1])) else ([], 110, ((n + 1 : Nat) : Int))
theorem regL_cons (p : List UInt8) (r : List (List UInt8)) (n : Nat) (acc : List CC) : regL (p :: r) n acc = if noteB p = true then regL r (n + 1) acc else if (refLineS p).2 = true then (if (foundC (refLineS p).1.i acc).2 = true then ([], 8, ((n + 1 : Nat) : Int)) else if acc.length = 256 then ([], 32, ((n + 1 : Nat) : Int)) else regL r (n + 1) (acc ++ [mkC (refLineS p).1])) else ([], 110, ((n + 1 : Nat) : Int)) := rfl
theorem prog_lines (qs : List (List UInt8)) (hq : widthL qs ≤ 65537) : ∀ (m i : Nat) (acc : List CC), i + m = qs.length → acc.length ≤ 256 → (∀ x ∈ acc, x.f5.length ≤ 32) →
    Ev (fun k => client_Parse.l0 k acc (qs.map bs) (qs.length : Int) (i : Int)) (regL (qs.drop i) i acc) := by
  have hcw := count_width qs
  have hml : (qs.map bs).length = qs.length := List.length_map ..
  intro m
  induction m with
  | zero =>
    intro i acc hi ha h5
    rw [List.drop_eq_nil_of_le (by omega)]
    refine Ev.step (f := fun _ => some (acc, 0, 0)) (fun k => ?_) (Ev.now _)
    simp only [client_Parse.l0]
    rw [if_neg (by omega)]
  | succ m ih =>
    intro i acc hi ha h5
    have hlt : i < qs.length := by omega
    have hrd := rd_bs qs i hlt
    have hp := widthL_mem qs _ (List.getElem_mem hlt)
    rw [drop_cons qs i hlt, regL_cons]
    generalize qs[i] = p at *
    have hw : wrap64 ((i : Int) + 1) = ((i + 1 : Nat) : Int) := by rw [w64 (by omega) (by omega)]; rfl
    have hj : Ev (fun k => client_Parse.j1 k acc (i : Int) (bs p) (qs.map bs) (qs.length : Int) (i : Int) (noteB p)) (if noteB p = true then regL (qs.drop (i + 1)) (i + 1) acc else if (refLineS p).2 = true then (if (foundC (refLineS p).1.i acc).2 = true then ([], 8, ((i + 1 : Nat) : Int)) else if acc.length = 256 then ([], 32, ((i + 1 : Nat) : Int)) else regL (qs.drop (i + 1)) (i + 1) (acc ++ [mkC (refLineS p).1])) else ([], 110, ((i + 1 : Nat) : Int))) := by
      by_cases hn : noteB p = true
      · rw [if_pos hn]
        refine Ev.step (fun k => ?_) (ih (i + 1) acc (by omega) ha h5)
        simp only [client_Parse.j1]
        rw [if_pos hn, hw]
      · rw [if_neg hn]
        obtain ⟨c, hc, hcs⟩ := line_prog p (by omega)
        by_cases hk : (refLineS p).2 = true
        · rw [if_pos hk]
          have hcs := hcs hk
          subst hcs
          have hfe := find_ev acc ⟨by omega, fun x hx => by have := h5 x hx; omega⟩ (refLineS p).1.i
          refine Ev.step (f := fun k => (client_Find.f k acc (refLineS p).1.i).bind fun bt173 => (if bt173.2.2.2.2.2.2 = true then (some (([] : List CC), 8, ((i + 1 : Nat) : Int))) else (if (acc.length : Int) = 256 then (some (([] : List CC), 32, ((i + 1 : Nat) : Int))) else (if acc.length < 1599289640401 then (client_Parse.l0 k (acc ++ [mkC (refLineS p).1]) (qs.map bs) (qs.length : Int) ((i + 1 : Nat) : Int)) else (none))))) (fun k => ?_) ?_
          · simp only [client_Parse.j1]
            rw [if_neg hn, hc, Option.bind_some, hw]
            simp only [flatC, hk, if_true]
            rfl
          · refine Ev.bind hfe ?_
            by_cases h1 : (foundC (refLineS p).1.i acc).2 = true
            · rw [if_pos h1]
              exact Ev.pos h1 (Ev.now _)
            · rw [if_neg h1]
              refine Ev.neg h1 ?_
              by_cases h2 : acc.length = 256
              · rw [if_pos h2]
                exact Ev.pos (by omega) (Ev.now _)
              · rw [if_neg h2]
                refine Ev.neg (by omega) (Ev.pos (by omega) ?_)
                refine ih (i + 1) _ (by omega) (by rw [List.length_append, List.length_singleton]; omega) (fun x hx => ?_)
                rcases List.mem_append.1 hx with hx | hx
                · exact h5 x hx
                · rw [List.mem_singleton.1 hx]; exact refLine_sc p
        · rw [if_neg hk]
          refine Ev.step (f := fun _ => some (([] : List CC), 110, ((i + 1 : Nat) : Int))) (fun k => ?_) (Ev.now _)
          simp only [client_Parse.j1]
          rw [if_neg hn, hc, Option.bind_some, hw]
          simp only [flatC]
          exact if_neg hk
    refine Ev.step (fun k => ?_) hj
    simp only [client_Parse.l0]
    rw [if_pos (by omega), if_pos (by omega), if_pos (by rw [hml]; omega), hrd]
    cases p with
    | nil => rw [if_pos (by rw [bs_toList])]; rfl
    | cons x r =>
      rw [if_neg (by rw [bs_toList]; simp), if_pos (by rw [bs_size, List.length_cons]; omega)]
      have hb := bt_bs (x :: r) 0 (by simp)
      rw [show (((0 : Nat) : Int)) = 0 from rfl] at hb
      rw [hb]
      rfl
def regS (s : List UInt8) : List CC × Int × Int := if s.length > 65536 then ([], 1, 0) else regL (splitL 10 s) 0 []
theorem prog_ev (s : ByteArray) : Ev (fun k => client_Parse.f k s) (regS s.data.toList) := by
  unfold client_Parse.f regS
  rw [data_len]
  by_cases h : s.size > 65536
  · rw [if_pos h]
    exact Ev.pos (by omega) (Ev.now _)
  · rw [if_neg h]
    refine Ev.neg (by omega) ?_
    rw [split_eq s 10 (by omega)]
    have hw := splitL_width 10 s.data.toList
    rw [data_len] at hw
    have := prog_lines (splitL 10 s.data.toList) (by omega) (splitL 10 s.data.toList).length 0 [] (by omega) (by simp) (by simp)
    rw [List.drop_zero] at this
    simp only [Option.bind_some, List.length_map]
    exact this
end Go.Proofs.YtmimipgmhgalaaaGreatDoor.Pure
end
section
namespace Go.Proofs.YtmimipgmhgalaaaGreatDoor.PAll
open Go.RowKit Go.Proofs.YtmimipgmhgalaaaGreatDoorW.PrintWords Go.Proofs.YtmimipgmhgalaaaGreatDoorW.PrintLast Go.Proofs.YtmimipgmhgalaaaGreatDoorW.PrintMore
attribute [local go_sem] max2_int min2_int max_two min_two max_three min_three max_four min_four
set_option linter.unusedVariables false
set_option linter.unusedSimpArgs false
def wicketref03_plain.f (a0 : Int) : Option (Bool) := if a0 ≥ 65 then (if a0 ≤ 90 then (some true) else (if a0 ≥ 97 then (if a0 ≤ 122 then (some true) else (if a0 ≥ 48 then (if a0 ≤ 57 then (some true) else (if a0 = 45 then (some true) else (if a0 = 46 then (some true) else (if a0 = 95 then (some true) else (some (a0 == 42)))))) else (if a0 = 45 then (some true) else (if a0 = 46 then (some true) else (if a0 = 95 then (some true) else (some (a0 == 42))))))) else (if a0 ≥ 48 then (if a0 ≤ 57 then (some true) else (if a0 = 45 then (some true) else (if a0 = 46 then (some true) else (if a0 = 95 then (some true) else (some (a0 == 42)))))) else (if a0 = 45 then (some true) else (if a0 = 46 then (some true) else (if a0 = 95 then (some true) else (some (a0 == 42)))))))) else (if a0 ≥ 97 then (if a0 ≤ 122 then (some true) else (if a0 ≥ 48 then (if a0 ≤ 57 then (some true) else (if a0 = 45 then (some true) else (if a0 = 46 then (some true) else (if a0 = 95 then (some true) else (some (a0 == 42)))))) else (if a0 = 45 then (some true) else (if a0 = 46 then (some true) else (if a0 = 95 then (some true) else (some (a0 == 42))))))) else (if a0 ≥ 48 then (if a0 ≤ 57 then (some true) else (if a0 = 45 then (some true) else (if a0 = 46 then (some true) else (if a0 = 95 then (some true) else (some (a0 == 42)))))) else (if a0 = 45 then (some true) else (if a0 = 46 then (some true) else (if a0 = 95 then (some true) else (some (a0 == 42)))))))
end Go.Proofs.YtmimipgmhgalaaaGreatDoor.PAll
end
section
namespace Go.Proofs.YtmimipgmhgalaaaGreatDoor.PAll
open Go.RowKit Go.Proofs.YtmimipgmhgalaaaGreatDoorW.PrintWords Go.Proofs.YtmimipgmhgalaaaGreatDoorW.PrintLast Go.Proofs.YtmimipgmhgalaaaGreatDoorW.PrintMore
attribute [local go_sem] max2_int min2_int max_two min_two max_three min_three max_four min_four
set_option linter.unusedVariables false
set_option linter.unusedSimpArgs false
attribute [local go_sem] IntKind.wrap_u8
def wicketref03_Escape.l0 : Nat → ByteArray → List Int → ByteArray → Int → Option (ByteArray)
  | 0, _, _, _, _ => none
  | k + 1, x0, x3, x4, x5 => if x5 < (x0.size : Int) then (if 0 ≤ x5 then ((wicketref03_plain.f (bt x0 x5)).bind fun t463 => (if t463 = true then (if x3.length < 140737488355328 then (wicketref03_Escape.l0 k x0 (x3 ++ [bt x0 x5]) x4 (wrap64 (x5 + 1))) else (none)) else (if (bt x0 x5) = 32 then (if x3.length < 140737488355328 then (wicketref03_Escape.l0 k x0 (x3 ++ [43]) x4 (wrap64 (x5 + 1))) else (none)) else (if 0 ≤ ((Int.tdiv (bt x0 x5) 16) % 256) then (if ((Int.tdiv (bt x0 x5) 16) % 256) < (x4.size : Int) then (if 0 ≤ (Int.tmod (bt x0 x5) 16) then (if (Int.tmod (bt x0 x5) 16) < (x4.size : Int) then ((some (([37, bt x4 ((Int.tdiv (bt x0 x5) 16) % 256), bt x4 (Int.tmod (bt x0 x5) 16)] : List Int) : List Int)).bind fun y470 => (if x3.length + y470.length < 140737488355328 then (wicketref03_Escape.l0 k x0 (x3 ++ y470) x4 (wrap64 (x5 + 1))) else (none))) else (none)) else (none)) else (none)) else (none))))) else (none)) else (some (strOfNums x3))
def wicketref03_Escape.f (k : Nat) (a0 : ByteArray) : Option (ByteArray) := wicketref03_Escape.l0 k a0 ([] : List Int) (⟨#[48, 49, 50, 51, 52, 53, 54, 55, 56, 57, 65, 66, 67, 68, 69, 70]⟩ : ByteArray) 0
end Go.Proofs.YtmimipgmhgalaaaGreatDoor.PAll
end
section
namespace Go.Proofs.YtmimipgmhgalaaaGreatDoor.PAll
open Go.RowKit Go.Proofs.YtmimipgmhgalaaaGreatDoorW.PrintWords Go.Proofs.YtmimipgmhgalaaaGreatDoorW.PrintLast Go.Proofs.YtmimipgmhgalaaaGreatDoorW.PrintMore
attribute [local go_sem] max2_int min2_int max_two min_two max_three min_three max_four min_four
set_option linter.unusedVariables false
set_option linter.unusedSimpArgs false
def wicketref03_Print.l0 : Nat → List (S121) → ByteArray → Int → Option (ByteArray)
  | 0, _, _, _ => none
  | k + 1, x0, x3, x4 => if x4 < (x0.length : Int) then (if x4 > 0 then (if x3.size + 1 ≤ 9223372036854775807 then (if 0 ≤ x4 then ((wicketref03_Escape.f k ((rd_T121 x0 x4).f0)).bind fun t477 => (if (x3 ++ (⟨#[38]⟩ : ByteArray)).size + t477.size ≤ 9223372036854775807 then (if ((x3 ++ (⟨#[38]⟩ : ByteArray)) ++ t477).size + 1 ≤ 9223372036854775807 then ((wicketref03_Escape.f k ((rd_T121 x0 x4).f1)).bind fun t479 => (if (((x3 ++ (⟨#[38]⟩ : ByteArray)) ++ t477) ++ (⟨#[61]⟩ : ByteArray)).size + t479.size ≤ 9223372036854775807 then (wicketref03_Print.l0 k x0 ((((x3 ++ (⟨#[38]⟩ : ByteArray)) ++ t477) ++ (⟨#[61]⟩ : ByteArray)) ++ t479) (wrap64 (x4 + 1))) else (none))) else (none)) else (none))) else (none)) else (none)) else (if 0 ≤ x4 then ((wicketref03_Escape.f k ((rd_T121 x0 x4).f0)).bind fun t481 => (if x3.size + t481.size ≤ 9223372036854775807 then (if (x3 ++ t481).size + 1 ≤ 9223372036854775807 then ((wicketref03_Escape.f k ((rd_T121 x0 x4).f1)).bind fun t483 => (if ((x3 ++ t481) ++ (⟨#[61]⟩ : ByteArray)).size + t483.size ≤ 9223372036854775807 then (wicketref03_Print.l0 k x0 (((x3 ++ t481) ++ (⟨#[61]⟩ : ByteArray)) ++ t483) (wrap64 (x4 + 1))) else (none))) else (none)) else (none))) else (none))) else (some x3)
def wicketref03_Print.f (k : Nat) (l0 : List (S121)) : Option (ByteArray) := wicketref03_Print.l0 k l0 (⟨#[]⟩ : ByteArray) 0
end Go.Proofs.YtmimipgmhgalaaaGreatDoor.PAll
end
section
namespace Go.Proofs.YtmimipgmhgalaaaGreatDoor.Pure
open Go.RowKit Go.Proofs.YtmimipgmhgalaaaGreatDoorW.PrintWords Go.Proofs.YtmimipgmhgalaaaGreatDoor.Plain Go.Proofs.YtmimipgmhgalaaaGreatDoor.Spec Go.Proofs.YtmimipgmhgalaaaGreatDoor.PAll
set_option linter.unusedSimpArgs false
set_option linter.unusedVariables false
def digitsB : ByteArray := ⟨#[48, 49, 50, 51, 52, 53, 54, 55, 56, 57, 65, 66, 67, 68, 69, 70]⟩
set_option maxRecDepth 100000 in
theorem plain_all : ∀ n : Fin 256, wicketref03_plain.f (n.val : Int) = some (plainB (UInt8.ofNat n.val)) := by decide +kernel
theorem plain_eq (c : UInt8) : wicketref03_plain.f (c.toNat : Int) = some (plainB c) := by
  have h := plain_all ⟨c.toNat, c.toNat_lt⟩
  rw [UInt8.ofNat_toNat] at h
  exact h
set_option maxRecDepth 100000 in
theorem digs_all : ∀ n : Fin 256, (Int.tdiv (n.val : Int) 16 % 256 < 16 ∧ 0 ≤ Int.tdiv (n.val : Int) 16 % 256 ∧ 0 ≤ Int.tmod (n.val : Int) 16 ∧ Int.tmod (n.val : Int) 16 < 16) ∧ bt digitsB (Int.tdiv (n.val : Int) 16 % 256) = ((hexD (n.val / 16)).toNat : Int) ∧ bt digitsB (Int.tmod (n.val : Int) 16) = ((hexD (n.val % 16)).toNat : Int) := by decide +kernel
theorem refesc_loop (s : ByteArray) (hs : s.size ≤ 1048576) : ∀ (m i : Nat), i + m = s.size →
    Ev (fun k => wicketref03_Escape.l0 k s (n8 (escL (s.data.toList.take i))) digitsB (i : Int)) (bs (escL s.data.toList)) := by
  intro m
  induction m with
  | zero =>
    intro i hi
    refine Ev.step (f := fun _ => some (bs (escL s.data.toList))) (fun k => ?_) (Ev.now _)
    simp only [wicketref03_Escape.l0]
    rw [if_neg (by omega), str_n8, List.take_of_length_le (by rw [data_len]; omega)]
  | succ m ih =>
    intro i hi
    have hlt : i < s.size := by omega
    have hbt := bt_get s i hlt
    have hpl := plain_eq s[i]
    have hdg := digs_all ⟨s[i].toNat, s[i].toNat_lt⟩
    have hel : (n8 (escL (s.data.toList.take i))).length ≤ 3 * 1048576 := by
      rw [n8_len]
      have h1 := escL_len (s.data.toList.take i)
      have h2 := List.length_take_le i s.data.toList
      omega
    have key := ih (i + 1) (by omega)
    rw [escL_take s i hlt] at key
    have hds : digitsB.size = 16 := rfl
    generalize s[i] = c at *
    refine Ev.step (fun k => ?_) key
    simp only [wicketref03_Escape.l0]
    rw [if_pos (by omega), if_pos (by omega), hbt, hpl, Option.bind_some, w64 (by omega) (by omega)]
    unfold escB
    by_cases h32 : c = 32
    · have hp : plainB c = false := by rw [h32]; decide
      have h32' : (c.toNat : Int) = 32 := by rw [h32]; rfl
      rw [hp, if_neg (by simp), if_pos h32', if_pos (by omega), if_pos h32, ← n8_snoc]
      rfl
    · have h32' : ¬ (c.toNat : Int) = 32 := fun e => h32 (u8_lit c 32 (by omega))
      rw [if_neg h32]
      cases hp : plainB c with
      | true =>
        rw [if_pos rfl, if_pos (by omega), if_pos rfl, ← n8_snoc]
        rfl
      | false =>
        obtain ⟨⟨g1, g2, g3, g4⟩, g5, g6⟩ := hdg
        simp only at g1 g2 g3 g4 g5 g6
        rw [if_neg (by simp), if_neg h32', if_pos (by omega), if_pos (by omega), if_pos (by omega), if_pos (by omega), Option.bind_some, if_pos (by simp; omega), if_neg (by simp), g5, g6]
        simp only [n8, List.map_append, List.map_cons, List.map_nil]
        rfl
theorem sum_len {α : Type} (g : α → Nat) (hg : ∀ x, 1 ≤ g x) : ∀ l : List α, l.length ≤ (l.map g).sum
  | [] => Nat.zero_le _
  | x :: l => by
    have := sum_len g hg l
    have := hg x
    simp only [List.length_cons, List.map_cons, List.sum_cons]
    omega
theorem refesc_ev (s : ByteArray) (hs : s.size ≤ 1048576) : Ev (fun k => wicketref03_Escape.f k s) (bs (escL s.data.toList)) := by
  unfold wicketref03_Escape.f
  exact refesc_loop s hs s.size 0 (by omega)
theorem bs_append (a b : List UInt8) : bs a ++ bs b = bs (a ++ b) := by
  rw [← bs_of (bs a ++ bs b)]
  congr 1
  all_goals simp [bs]
theorem pair_len (p : S68) : (escL p.f0.data.toList).length ≤ 3 * p.f0.size ∧ (escL p.f1.data.toList).length ≤ 3 * p.f1.size := by
  have h0 := escL_len p.f0.data.toList
  have h1 := escL_len p.f1.data.toList
  rw [data_len] at h0 h1
  exact ⟨h0, h1⟩
theorem refprint_loop (l : List S68) (hl : sizeL l ≤ 1048576) : ∀ (m i : Nat), i + m = l.length → Ev (fun k => wicketref03_Print.l0 k (l.map to61) (bs (printL (l.take i))) (i : Int)) (bs (printL l)) := by
  have hal : (l.map to61).length = l.length := List.length_map ..
  have hln : l.length ≤ sizeL l := by
    have := sum_len (fun p : S68 => p.f0.size + p.f1.size + 1) (fun x => by omega) l
    exact this
  intro m
  induction m with
  | zero =>
    intro i hi
    refine Ev.step (f := fun _ => some (bs (printL l))) (fun k => ?_) (Ev.now _)
    simp only [wicketref03_Print.l0]
    rw [if_neg (by omega), List.take_of_length_le (by omega)]
  | succ m ih =>
    intro i hi
    have hlt : i < l.length := by omega
    have hst := sizeL_take l i hlt
    have hpl := printL_len (l.take i)
    have hrd : rd_T121 (l.map to61) (i : Int) = to61 l[i] := by simp [rd_T121, hlt]
    have key := ih (i + 1) (by omega)
    rw [List.take_succ_eq_append_getElem hlt] at key
    have he := pair_len l[i]
    generalize l[i] = p at *
    have e0 : Ev (fun k => wicketref03_Escape.f k (to61 p).f0) (bs (escL p.f0.data.toList)) := refesc_ev p.f0 (by omega)
    have e1 : Ev (fun k => wicketref03_Escape.f k (to61 p).f1) (bs (escL p.f1.data.toList)) := refesc_ev p.f1 (by omega)
    have z0 : (bs (escL p.f0.data.toList)).size ≤ 3 * p.f0.size := by rw [bs_size]; exact he.1
    have z1 : (bs (escL p.f1.data.toList)).size ≤ 3 * p.f1.size := by rw [bs_size]; exact he.2
    have zt : (bs (printL (l.take i))).size ≤ 3 * sizeL (l.take i) := by rw [bs_size]; exact hpl
    have s38 : (⟨#[38]⟩ : ByteArray) = bs [38] := rfl
    have s61 : (⟨#[61]⟩ : ByteArray) = bs [61] := rfl
    by_cases h0 : 0 < i
    · have hp : printL (l.take i ++ [p]) = printL (l.take i) ++ 38 :: pairB p := printL_snoc _ _ (fun e => by have := congrArg List.length e; rw [List.length_take, List.length_nil] at this; omega)
      rw [hp] at key
      refine Ev.step (f := fun k => (wicketref03_Escape.f k (to61 p).f0).bind fun t115 => (if ((bs (printL (l.take i))) ++ (⟨#[38]⟩ : ByteArray)).size + t115.size ≤ 9223372036854775807 then (if (((bs (printL (l.take i))) ++ (⟨#[38]⟩ : ByteArray)) ++ t115).size + 1 ≤ 9223372036854775807 then ((wicketref03_Escape.f k (to61 p).f1).bind fun t117 => (if ((((bs (printL (l.take i))) ++ (⟨#[38]⟩ : ByteArray)) ++ t115) ++ (⟨#[61]⟩ : ByteArray)).size + t117.size ≤ 9223372036854775807 then (wicketref03_Print.l0 k (l.map to61) (((((bs (printL (l.take i))) ++ (⟨#[38]⟩ : ByteArray)) ++ t115) ++ (⟨#[61]⟩ : ByteArray)) ++ t117) ((i + 1 : Nat) : Int)) else (none))) else (none)) else (none))) (fun k => ?_) ?_
      · simp only [wicketref03_Print.l0]
        rw [if_pos (by omega), if_pos (by omega), if_pos (by omega), if_pos (by omega), hrd, w64 (by omega) (by omega)]
        rfl
      · have a1 : ((bs (printL (l.take i))) ++ (⟨#[38]⟩ : ByteArray)).size = (bs (printL (l.take i))).size + 1 := by rw [ByteArray.size_append]; rfl
        have a2 : (((bs (printL (l.take i))) ++ (⟨#[38]⟩ : ByteArray)) ++ bs (escL p.f0.data.toList)).size = (bs (printL (l.take i))).size + 1 + (bs (escL p.f0.data.toList)).size := by rw [ByteArray.size_append, a1]
        have a3 : ((((bs (printL (l.take i))) ++ (⟨#[38]⟩ : ByteArray)) ++ bs (escL p.f0.data.toList)) ++ (⟨#[61]⟩ : ByteArray)).size = (bs (printL (l.take i))).size + 1 + (bs (escL p.f0.data.toList)).size + 1 := by rw [ByteArray.size_append, a2]; rfl
        refine Ev.bind e0 (Ev.pos (by rw [a1]; omega) (Ev.pos (by rw [a2]; omega) (Ev.bind e1 (Ev.pos (by rw [a3]; omega) ?_))))
        rw [s38, s61, bs_append, bs_append, bs_append, bs_append]
        have e : printL (l.take i) ++ [38] ++ escL p.f0.data.toList ++ [61] ++ escL p.f1.data.toList = printL (l.take i) ++ 38 :: pairB p := by simp [pairB]
        rw [e]
        exact key
    · obtain rfl : i = 0 := by omega
      have hp : printL (l.take 0 ++ [p]) = pairB p := by simp [printL]
      rw [hp] at key
      refine Ev.step (f := fun k => (wicketref03_Escape.f k (to61 p).f0).bind fun t119 => (if (bs (printL (l.take 0))).size + t119.size ≤ 9223372036854775807 then (if ((bs (printL (l.take 0))) ++ t119).size + 1 ≤ 9223372036854775807 then ((wicketref03_Escape.f k (to61 p).f1).bind fun t121 => (if (((bs (printL (l.take 0))) ++ t119) ++ (⟨#[61]⟩ : ByteArray)).size + t121.size ≤ 9223372036854775807 then (wicketref03_Print.l0 k (l.map to61) ((((bs (printL (l.take 0))) ++ t119) ++ (⟨#[61]⟩ : ByteArray)) ++ t121) ((0 + 1 : Nat) : Int)) else (none))) else (none)) else (none))) (fun k => ?_) ?_
      · simp only [wicketref03_Print.l0]
        rw [if_pos (by omega), if_neg (by omega), if_pos (by omega), hrd, w64 (by omega) (by omega)]
        rfl
      · have a2 : ((bs (printL (l.take 0))) ++ bs (escL p.f0.data.toList)).size = (bs (printL (l.take 0))).size + (bs (escL p.f0.data.toList)).size := by rw [ByteArray.size_append]
        have a3 : (((bs (printL (l.take 0))) ++ bs (escL p.f0.data.toList)) ++ (⟨#[61]⟩ : ByteArray)).size = (bs (printL (l.take 0))).size + (bs (escL p.f0.data.toList)).size + 1 := by rw [ByteArray.size_append, a2]; rfl
        refine Ev.bind e0 (Ev.pos (by omega) (Ev.pos (by rw [a2]; omega) (Ev.bind e1 (Ev.pos (by rw [a3]; omega) ?_))))
        rw [s61, bs_append, bs_append, bs_append]
        have e : printL (l.take 0) ++ escL p.f0.data.toList ++ [61] ++ escL p.f1.data.toList = pairB p := by simp [pairB, printL]
        rw [e]
        exact key
end Go.Proofs.YtmimipgmhgalaaaGreatDoor.Pure
end
section
namespace Go.Proofs.YtmimipgmhgalaaaGreatDoor.PAll
open Go.RowKit Go.Proofs.YtmimipgmhgalaaaGreatDoorW.PrintWords
set_option linter.unusedVariables false
set_option maxHeartbeats 1000000 in
theorem empty_one (a b : ByteArray) (w : World) :
    Calls Tryz.prog 79 (#[.agg #[.string a, .string b]] ++ #[]) w fun e w' => e = .returned (.bool (b.toList == [])) ∧ Below w.heap.size w w' := by
  have hB := Below.refl w.heap.size w
  go_enter Tryz.func79, Tryz.ntmps79
  go_wp2
  go_ret
  have e2 : (b.toList == []) = b.toList.isEmpty := by cases b.toList <;> rfl
  exact ⟨by rw [e2]; rfl, hB.alloc (Nat.le_refl _) _⟩
def placeE : List S68 → Nat → Int
  | [], _ => -1
  | q :: r, i => if (q.f1.toList == []) = true then (i : Int) else placeE r (i + 1)
theorem placeE_cons (q : S68) (r : List S68) (i : Nat) : placeE (q :: r) i = if (q.f1.toList == []) = true then (i : Int) else placeE r (i + 1) := rfl
set_option maxHeartbeats 4000000 in
set_option maxRecDepth 100000 in
theorem index_empty (A0 : Option Addr) (c0 : Nat) (l0 : List S68) (w : World) (hr0 : Kd.C k68 w A0 l0.length l0) :
    Calls Tryz.prog 113 #[.slice A0 l0.length c0, .func (.func 79) #[] #[]] w fun e w' => e = .returned (.int .i64 (placeE l0 0)) ∧ Below w.heap.size w w' := by
  have e85 : ∀ args w, (callFunc 79 args).run Tryz.prog w = .ok (.enter 79 args) w := enters_of Tryz.func79 (by kernel_rfl) rfl
  have HR := Lib.hid hr0
  have hm := hr0.2.1
  clear hr0
  obtain ⟨G, hG0⟩ : ∃ G, placeE l0 0 = G := ⟨_, rfl⟩
  rw [hG0]
  go_enter Tryz.func113, Tryz.ntmps113
  go_wp2
  go_loopw [8] (fun v8 wr => ∃ j : Nat, j ≤ l0.length ∧ v8 = .int .i64 (j : Int) ∧ Below w.heap.size w wr ∧ placeE (l0.drop j) j = G) (fun v8 _ => l0.length - (intOf v8).toNat)
  case atStart => exact ⟨0, Nat.zero_le _, rfl, Below.refl _ _, hG0⟩
  case round =>
    obtain ⟨j, hj, rfl, hB, hG⟩ := hrel
    by_cases hlt : j < l0.length
    · obtain ⟨ad, hA, hx0, hx1⟩ := at_T68 (Kd.C_below HR.out hB) (j : Int) (by omega) (by omega)
      subst hA
      have hp : rd_T68 l0 (j : Int) = l0[j] := by simp [rd_T68, hlt]
      rw [hp] at hx0 hx1
      rw [List.drop_eq_getElem_cons hlt] at hG
      simp only [Int.toNat_natCast] at hx0 hx1
      clear hp
      generalize hpk : l0[j] = p at *
      have hcall := empty_one p.f0 p.f1 wr
      rw [placeE_cons] at hG
      obtain ⟨r, hr⟩ : ∃ r, (p.f1.toList == []) = r := ⟨_, rfl⟩
      rw [hr] at hG hcall
      cases r with
      | true =>
        rw [if_pos rfl] at hG
        have HG := Lib.hid hG
        clear hG
        go_wp2_with (go_at_fn 79; refine hcall.mono ?_; rintro e w1 ⟨rfl, hb1⟩)
        go_ret
        exact ⟨by rw [← HG.out]; rfl, hB.trans (hb1.mono hB.size)⟩
      | false =>
        rw [if_neg (by simp)] at hG
        have HG := Lib.hid hG
        clear hG
        go_wp2_with (go_at_fn 79; refine hcall.mono ?_; rintro e w1 ⟨rfl, hb1⟩)
        exact ⟨⟨j + 1, by omega, rfl, hB.trans (hb1.mono hB.size), HG.out⟩, by simp [intOf]; omega⟩
    · have hge : decide (j < l0.length) = false := decide_eq_false hlt
      rw [List.drop_eq_nil_of_le (by omega)] at hG
      have HG := Lib.hid hG
      clear hG
      go_wp2
      go_ret
      exact ⟨by rw [← HG.out]; rfl, hB⟩
def cellsP : List S68 → List Value
  | [] => []
  | p :: r => .string p.f0 :: .string p.f1 :: cellsP r
theorem cellsP_len : ∀ l, (cellsP l).length = l.length * 2
  | [] => rfl
  | p :: r => by simp [cellsP, cellsP_len r]; omega
theorem cellsP_at (l : List S68) : ∀ (i : Nat) (h : i < l.length), (cellsP l)[i * 2]? = some (.string l[i].f0) ∧ (cellsP l)[i * 2 + 1]? = some (.string l[i].f1) := by
  induction l with
  | nil => intro i h; simp at h
  | cons p r ih =>
    intro i h
    cases i with
    | zero => exact ⟨rfl, rfl⟩
    | succ i =>
      have := ih i (by simpa using h)
      rw [show (i + 1) * 2 = i * 2 + 1 + 1 by omega]
      simpa [cellsP] using this
theorem cellsP_set (l : List S68) (p : S68) : ∀ (i : Nat), i < l.length → ((cellsP l).set (i * 2) (.string p.f0)).set (i * 2 + 1) (.string p.f1) = cellsP (l.set i p) := by
  induction l with
  | nil => intro i h; simp at h
  | cons q r ih =>
    intro i h
    cases i with
    | zero => simp [cellsP]
    | succ i =>
      have := ih i (by simpa using h)
      rw [show (i + 1) * 2 = i * 2 + 1 + 1 by omega]
      simp [cellsP, this]
theorem cellsP_take (l : List S68) : ∀ i, (cellsP l).take (i * 2) = cellsP (l.take i) := by
  induction l with
  | nil => intro i; simp [cellsP]
  | cons p r ih =>
    intro i
    cases i with
    | zero => simp [cellsP]
    | succ i =>
      rw [show (i + 1) * 2 = i * 2 + 1 + 1 by omega]
      simp [cellsP, ih i]
theorem reps_pairs {W : World} {b : Nat} {ok : Nat → Prop} : ∀ (l : List S68), Reps (k68.M W b ok) 2 l (cellsP l)
  | [] => Reps.none _ _
  | p :: l => by
    have h := reps_pairs (W := W) (b := b) (ok := ok) l
    refine ⟨by rw [cellsP_len], fun j q hj => ?_⟩
    cases j with
    | zero =>
      simp at hj
      subst hj
      exact ⟨[.string p.f0], [.string p.f1], rfl, rfl, rfl⟩
    | succ j =>
      have h2 := h.2 j q (by simpa using hj)
      rw [show (j + 1) * 2 = j * 2 + 1 + 1 by omega]
      simpa [cellsP] using h2
theorem open_pairs {w : World} {base : Nat} {P : Nat → Prop} {v : Value} {l : List S68} (h : Kd.R k68 68 w base P v l) (h0 : l ≠ []) :
    ∃ g cap cur, v = .slice (some ⟨g, 0, none⟩) l.length cap ∧ P g ∧ base ≤ g ∧ w.heap[g]? = some (.cells cur 68 (0, 0)) ∧ l.length ≤ cap ∧ cap ≤ maxLen ∧ cur.size = cap * 2 ∧ cur.toList.take (l.length * 2) = cellsP l := by
  obtain ⟨hP, inner, ⟨hl, ho⟩, hr⟩ := h
  have hsz : inner.length = l.length * 2 := hr.1
  have hin : inner = cellsP l := by
    apply List.ext_getElem?
    intro i
    by_cases hi : i < l.length * 2
    · have hj : i / 2 < l.length := by omega
      obtain ⟨c0, c1, e, e0, e1⟩ := hr.2 (i / 2) l[i / 2] (List.getElem?_eq_getElem hj)
      have e0' : c0 = [Value.string l[i / 2].f0] := e0
      have e1' : c1 = [Value.string l[i / 2].f1] := e1
      subst e0' e1'
      have e' : (inner.drop (i / 2 * 2)).take 2 = [Value.string l[i / 2].f0, Value.string l[i / 2].f1] := e
      have hat := cellsP_at l (i / 2) hj
      rcases Nat.mod_two_eq_zero_or_one i with hm | hm
      · have hi2 : i = i / 2 * 2 := by omega
        have hg : ((inner.drop (i / 2 * 2)).take 2)[0]? = some (Value.string l[i / 2].f0) := by rw [e']; rfl
        rw [List.getElem?_take_of_lt (by omega), List.getElem?_drop, Nat.add_zero, ← hi2] at hg
        rw [hg]
        have := hat.1
        rw [← hi2] at this
        rw [this]
      · have hi2 : i = i / 2 * 2 + 1 := by omega
        have hg : ((inner.drop (i / 2 * 2)).take 2)[1]? = some (Value.string l[i / 2].f1) := by rw [e']; rfl
        rw [List.getElem?_take_of_lt (by omega), List.getElem?_drop, ← hi2] at hg
        rw [hg]
        have := hat.2
        rw [← hi2] at this
        rw [this]
    · rw [List.getElem?_eq_none (by omega), List.getElem?_eq_none (by rw [cellsP_len]; omega)]
  rcases ho with ⟨rfl, hn⟩ | ⟨g, cap, cur, rfl, hg, hh, hc1, hc2, hc3, ht⟩
  · exact absurd (List.eq_nil_of_length_eq_zero hn) h0
  · refine ⟨g, cap, cur, rfl, hP g rfl, hg, hh, hc1, hc2, hc3, ?_⟩
    rw [← hin]
    exact ht
theorem shut_pairs {w : World} {base g cap : Nat} {P : Nat → Prop} {cur : Array Value} {l : List S68} (hP : P g) (hg : base ≤ g) (hh : w.heap[g]? = some (.cells cur 68 (0, 0))) (hc1 : l.length ≤ cap) (hc2 : cap ≤ maxLen) (hc3 : cur.size = cap * 2) (ht : cur.toList.take (l.length * 2) = cellsP l) :
    Kd.R k68 68 w base P (.slice (some ⟨g, 0, none⟩) l.length cap) l := by
  refine ⟨fun k hk => ?_, cellsP l, ⟨cellsP_len l, .inr ⟨g, cap, cur, rfl, hg, hh, hc1, hc2, hc3, ht⟩⟩, reps_pairs l⟩
  have : g = k := by simpa [Value.ownBlock] using hk
  exact this ▸ hP
theorem run_clear_pairs (w : World) (g o n c : Nat) (hn : 0 < n) (hc : ∀ j, j < n * 2 → (w.cell? ⟨g, o + j, none⟩).isSome = true) (hf : ∀ j, j < n * 2 → w.frozen? ⟨g, o + j, none⟩ = false) :
    (Builtin.clear_ #[60] 0 #[.slice (some ⟨g, o, none⟩) n c]).run Tryz.prog w = .ok (.tuple #[]) (w.setCells g o (List.replicate (n * 2) (.string ⟨#[]⟩))) := by
  have hv : ∀ w, (zeroValue 68).run Tryz.prog w = .ok (.agg #[.string ⟨#[]⟩, .string ⟨#[]⟩]) w := fun w => by kernel_rfl
  have hzc : (Builtin.zeroCells (Value.agg #[.string ⟨#[]⟩, .string ⟨#[]⟩]).cells n).toList = List.replicate (n * 2) (Value.string ⟨#[]⟩) := by
    apply List.ext_getElem
    · simp [Builtin.zeroCells, Value.cells]
    · intro i h1 h2
      simp only [Builtin.zeroCells, Value.cells, List.getElem_replicate, Array.getElem_toList]
      rcases Nat.mod_two_eq_zero_or_one i with hm | hm <;> simp [hm]
  have hst := run_storeCells_cells (P := Tryz.prog) g o (List.replicate (n * 2) (.string ⟨#[]⟩)) 0 w (by simpa using hc) (by simpa using hf) (by intro v hv'; rw [List.eq_of_mem_replicate hv']; rfl)
  simp only [Nat.add_zero] at hst
  obtain ⟨m, rfl⟩ : ∃ m, n = m + 1 := ⟨n - 1, by omega⟩
  simp [Builtin.clear_, run_underlying Tryz.underlying60, hv, hzc, hst]
def keepL (l : List S68) : List S68 := l.filter fun q => !(q.f1.toList == [])
theorem placeE_spec : ∀ (l : List S68) (i : Nat), (placeE l i = -1 ∧ keepL l = l) ∨ ∃ k, k < l.length ∧ placeE l i = ((i + k : Nat) : Int) ∧ keepL (l.take (k + 1)) = l.take k
  | [], i => .inl ⟨rfl, rfl⟩
  | q :: r, i => by
    rw [placeE_cons]
    cases h : (q.f1.toList == []) with
    | true =>
      right
      rw [if_pos rfl]
      exact ⟨0, by simp, rfl, by simp [keepL, beq_iff_eq.1 h]⟩
    | false =>
      rw [if_neg (by simp)]
      rcases placeE_spec r (i + 1) with ⟨h1, h2⟩ | ⟨k, hk, h1, h2⟩
      · left
        refine ⟨h1, ?_⟩
        unfold keepL at h2 ⊢
        rw [List.filter_cons, h]
        simp only [Bool.not_false, if_true]
        rw [h2]
      · right
        refine ⟨k + 1, by simpa using hk, by rw [h1]; congr 1; omega, ?_⟩
        unfold keepL at h2 ⊢
        rw [List.take_succ_cons, List.take_succ_cons, List.filter_cons, h]
        simp only [Bool.not_false, if_true]
        rw [h2]
structure DelInv (w0 w wr : World) (g : Nat) (m : List S68) (sp : List Value) : Prop where
  b : wr.heap[g]? = some (.cells (cellsP m ++ sp).toArray 68 (0, 0))
  k : KeepBut w wr g none
  o : Below w0.heap.size w0 wr
  g : w0.heap.size ≤ g
section
variable {w0 w wr : World} {g : Nat} {m : List S68} {sp : List Value} (h : DelInv w0 w wr g m sp)
include h
theorem DelInv.at0 (i : Nat) (hi : i < m.length) : wr.cell? ⟨g, i * 2, none⟩ = some (.string m[i].f0) := by
  rw [blk_cell h.b, List.getElem?_toArray, List.getElem?_append_left (by rw [cellsP_len]; omega)]
  exact (cellsP_at m i hi).1
theorem DelInv.at1 (i : Nat) (hi : i < m.length) : wr.cell? ⟨g, i * 2 + 1, none⟩ = some (.string m[i].f1) := by
  rw [blk_cell h.b, List.getElem?_toArray, List.getElem?_append_left (by rw [cellsP_len]; omega)]
  exact (cellsP_at m i hi).2
theorem DelInv.step {w' : World} (hb : Below wr.heap.size wr w') : DelInv w0 w w' g m sp :=
  ⟨blk_below h.b hb, h.k.trans (KeepBut.of_below hb g none) (.inl rfl), h.o.trans (hb.mono h.o.size), h.g⟩
theorem DelInv.put (i : Nat) (hi : i < m.length) (p : S68) : DelInv w0 w ((wr.setCell ⟨g, i * 2, none⟩ (.string p.f0)).setCell ⟨g, i * 2 + 1, none⟩ (.string p.f1)) g (m.set i p) sp := by
  have hl := cellsP_len m
  refine ⟨blk_put (blk_put h.b (i * 2) _ rfl) (i * 2 + 1) _ ?_, (h.k.set_ _ _).set_ _ _, below_set (below_set h.o h.g) h.g, h.g⟩
  rw [← cellsP_set m p i hi]
  apply Array.ext'
  simp only [List.setIfInBounds_toArray, List.toList_toArray]
  rw [List.set_append_left _ _ (by omega), List.set_append_left _ _ (by rw [List.length_set]; omega)]
end
def api_Pair.f (l0 : List S68) : Option (List S68) := if l0 ≠ [] then some (keepL l0) else none
set_option maxHeartbeats 8000000 in
set_option maxRecDepth 100000 in
theorem api_Pair.calls (P0_ : Nat → Prop) (u9000_ : Value) (l0 r : List S68) (w0 w : World) (hB : Below w0.heap.size w0 w) (ho0 : Kd.R k68 68 w w0.heap.size P0_ u9000_ l0) (h : api_Pair.f l0 = some r) :
    Calls Tryz.prog 78 #[u9000_, .func (.func 79) #[] #[]] w fun e w' => ∃ v0_ : Value, e = .returned v0_ ∧ Kd.R k68 68 w' w0.heap.size (fun k_ => (P0_ k_ ∨ w.heap.size ≤ k_)) v0_ r ∧ Below w0.heap.size w0 w' ∧ Kept w w' (fun k_ => P0_ k_) := by
  unfold api_Pair.f at h
  split at h
  · rename_i h0
    obtain rfl := Option.some.inj h
    obtain ⟨g, cap, cur, rfl, hP, hg, hheap, hc1, hc2, hc3, ht⟩ := open_pairs ho0 h0
    have hC := (Kd.R_reads' ho0).2.2
    have hidx := index_empty (some ⟨g, 0, none⟩) cap l0 w hC
    rcases placeE_spec l0 0 with ⟨e, hk⟩ | ⟨k0, hk0, e, hk⟩
    · rw [e] at hidx
      rw [hk]
      go_enter Tryz.func78, Tryz.ntmps78
      go_wp2_with (go_at_call 113; refine hidx.mono ?_; rintro e w1 ⟨rfl, hb1⟩)
      go_ret
      exact ⟨_, rfl, Kd.R_mono (Kd.R_below ho0 hb1) (fun k hk => .inl hk), hB.trans (hb1.mono hB.size), ⟨hb1.size, fun i hi _ => hb1.block i hi⟩⟩
    · rw [Nat.zero_add] at e
      rw [e] at hidx
      obtain ⟨sp, hsp⟩ : ∃ sp, cur.toList.drop (l0.length * 2) = sp := ⟨_, rfl⟩
      have hcur : cur = (cellsP l0 ++ sp).toArray := by
        apply Array.ext'
        rw [← ht, ← hsp, List.toList_toArray, List.take_append_drop]
      have hn : l0.length ≤ 9223372036854775807 := by unfold maxLen at hc2; omega
      have hI : DelInv w0 w w g l0 sp := ⟨by rw [← hcur]; exact hheap, KeepBut.refl _ _ _, hB, hg⟩
      have e79 : ∀ args w, (callFunc 79 args).run Tryz.prog w = .ok (.enter 79 args) w := enters_of Tryz.func79 (by kernel_rfl) rfl
      have HK0 := Lib.hid hk
      clear hk e
      go_enter Tryz.func78, Tryz.ntmps78
      go_wp2_with (go_at_call 113; refine hidx.mono ?_; rintro e w1 ⟨rfl, hb1⟩)
      have hI1 := hI.step hb1
      go_loopw [5, 6] (fun v5 v6 wr => ∃ (i j : Nat) (m : List S68), v5 = .int .i64 (i : Int) ∧ v6 = .int .i64 (j : Int) ∧ i < j ∧ j ≤ l0.length ∧ m.length = l0.length ∧ m.take i = keepL (l0.take j) ∧ m.drop j = l0.drop j ∧ DelInv w0 w wr g m sp) (fun v5 v6 _ => l0.length - (intOf v6).toNat)
      case atStart => exact ⟨k0, k0 + 1, l0, rfl, rfl, by omega, by omega, rfl, HK0.out.symm, rfl, hI1⟩
      case round =>
        obtain ⟨i, j, m, rfl, rfl, hij, hj, hm, htake, hdrop, hJ⟩ := hrel
        have hni : i < m.length := by omega
        by_cases hlt : j < l0.length
        · have hmj : m[j]'(by omega) = l0[j] := by
            have h1 := congrArg (fun z => z[0]?) hdrop
            simp only [List.getElem?_drop, Nat.add_zero] at h1
            rw [List.getElem?_eq_getElem (by omega), List.getElem?_eq_getElem hlt] at h1
            exact Option.some.inj h1
          have hx0 := hJ.at0 j (by omega)
          have hx1 := hJ.at1 j (by omega)
          rw [hmj] at hx0 hx1
          have hdj : m.drop (j + 1) = l0.drop (j + 1) := by
            have h1 := congrArg (List.drop 1) hdrop
            simpa [List.drop_drop, Nat.add_comm] using h1
          have htj : keepL (l0.take (j + 1)) = keepL (l0.take j) ++ (if (l0[j].f1.toList == []) = true then [] else [l0[j]]) := by
            unfold keepL
            rw [List.take_succ_eq_append_getElem hlt, List.filter_append]
            congr 1
            rw [List.filter_cons, List.filter_nil]
            cases l0[j].f1.toList == [] <;> rfl
          generalize hpk : l0[j] = p at *
          have hcall := empty_one p.f0 p.f1 (wr.alloc (.cells #[.string p.f0, .string p.f1] 68))
          have hJ1 := hJ.step (below_alloc (Below.refl _ _) (.cells #[.string p.f0, .string p.f1] 68))
          have hvb := blk_new wr (.cells #[.string p.f0, .string p.f1] 68)
          obtain ⟨q, hq⟩ : ∃ q, (p.f1.toList == []) = q := ⟨_, rfl⟩
          rw [hq] at hcall htj
          have HJ := Lib.hid hJ
          have HJ1 := Lib.hid hJ1
          have HT := Lib.hid htj
          have HT0 := Lib.hid htake
          have HD := Lib.hid hdj
          clear hJ hJ1 htj htake hdj hdrop hmj
          cases q with
          | true =>
            go_wp2_with (go_at_fn 79; refine hcall.mono ?_; rintro e w2 ⟨rfl, hb2⟩; have hv2 := blk_below hvb hb2; have v0 := blk_cell hv2 0; have v1 := blk_cell hv2 1; have hJ2 := HJ1.out.step hb2)
            go_roundw
            case rel =>
              repeat apply Exists.intro
              exact ⟨⟨i, j + 1, m, rfl, rfl, by omega, by omega, hm, by rw [HT.out, if_pos trivial, List.append_nil]; exact HT0.out, HD.out, hJ2⟩, rfl⟩
            case measure => simp [intOf]; omega
          | false =>
            go_wp2_with (go_at_fn 79; refine hcall.mono ?_; rintro e w2 ⟨rfl, hb2⟩; have hv2 := blk_below hvb hb2; have v0 := blk_cell hv2 0; have v1 := blk_cell hv2 1; have hJ2 := HJ1.out.step hb2; have s0 := hJ2.at0 i hni; have s1 := hJ2.at1 i hni; have f0 := blk_frozen hJ2.b (i * 2); have f1 := blk_frozen hJ2.b (i * 2 + 1); have hJ3 := hJ2.put i hni p)
            go_roundw
            case rel =>
              repeat apply Exists.intro
              exact ⟨⟨i + 1, j + 1, m.set i p, rfl, rfl, by omega, by omega, by rw [List.length_set]; exact hm, by rw [HT.out, if_neg (by simp), ← HT0.out, List.take_succ_eq_append_getElem (by rw [List.length_set]; exact hni), List.take_set_of_le (Nat.le_refl _), List.getElem_set_self], by rw [List.drop_set_of_lt (by omega)]; exact HD.out, hJ3⟩, rfl⟩
            case measure => simp [intOf]; omega
        · have hge : decide (j < l0.length) = false := decide_eq_false hlt
          have hjl : j = l0.length := by omega
          subst hjl
          rw [List.take_of_length_le (Nat.le_refl _)] at htake
          have HJ := Lib.hid hJ
          have HT0 := Lib.hid htake
          clear hJ htake hdrop
          obtain ⟨cur', q1, q2, q3⟩ := setCells_row (List.replicate ((l0.length - i) * 2) (.string ⟨#[]⟩)) (i * 2) wr _ HJ.out.b (by simp [cellsP_len]; omega)
          have hrun := run_clear_pairs wr g (i * 2) (l0.length - i) (cap - i) (by omega) (fun j hj => by rw [blk_cell HJ.out.b, List.getElem?_toArray, List.getElem?_eq_getElem (by rw [List.length_append, cellsP_len]; omega)]; rfl) (fun j hj => blk_frozen HJ.out.b _)
          have hsame := setCells_same g (List.replicate ((l0.length - i) * 2) (.string ⟨#[]⟩)) (i * 2) wr
          have hfar : ∀ q, q ≠ g → (wr.setCells g (i * 2) (List.replicate ((l0.length - i) * 2) (.string ⟨#[]⟩))).heap[q]? = wr.heap[q]? := fun q hq => setCells_far _ _ q hq
          have H1 := Lib.hid q1
          have H2 := Lib.hid q2
          have H3 := Lib.hid q3
          have H4 := Lib.hid hsame
          have H5 := Lib.hid hfar
          have hcap : decide (cap < i) = false := decide_eq_false (by omega)
          clear q1 q2 q3 hsame hfar
          go_wp2
          go_ret
          have hil : (keepL l0).length = i := by
            have := congrArg List.length HT0.out
            rw [List.length_take, Nat.min_eq_left (by omega)] at this
            exact this.symm
          have hshut := shut_pairs (l := keepL l0) (cap := cap) (P := fun k_ => P0_ k_ ∨ w.heap.size ≤ k_) (.inl hP) hg H1.out (by omega) hc2 (by rw [H2.out, ← hc3, hcur, List.size_toArray, List.size_toArray, List.length_append, List.length_append, cellsP_len, cellsP_len, hm]) (by
            rw [H3.out, hil, List.append_assoc, List.take_append_of_le_length (by rw [List.length_take]; simp [cellsP_len]; omega), List.take_take, Nat.min_self, List.take_append_of_le_length (by rw [cellsP_len]; omega), cellsP_take, HT0.out])
          rw [hil] at hshut
          have ho := HJ.out.o
          have hk := HJ.out.k
          refine ⟨_, rfl, hshut, ⟨H4.out.1.trans ho.os, H4.out.2.1.trans ho.tape, H4.out.2.2.1.trans ho.output, by rw [H4.out.2.2.2]; exact ho.size, fun q hq => (H5.out q (by omega)).trans (ho.block q hq)⟩, by rw [H4.out.2.2.2]; exact hk.1, fun q hq hn => ?_⟩
          have hqg : q ≠ g := fun e => hn (e ▸ hP)
          exact (H5.out q hqg).trans (hk.2 q hq hqg (by simp))
  · cases h
end Go.Proofs.YtmimipgmhgalaaaGreatDoor.PAll
end
section
namespace Go.Proofs.YtmimipgmhgalaaaGreatDoor.PAll
open Go.RowKit Go.Proofs.YtmimipgmhgalaaaGreatDoorW.PrintWords Go.Proofs.YtmimipgmhgalaaaGreatDoorW.PrintLast Go.Proofs.YtmimipgmhgalaaaGreatDoorW.PrintMore
attribute [local go_sem] max2_int min2_int max_two min_two max_three min_three max_four min_four
set_option linter.unusedVariables false
set_option linter.unusedSimpArgs false
mutual
def client_line.j0 : Nat → List ByteArray → ByteArray → ByteArray → Int → Bool → ByteArray → List ByteArray → Option (ByteArray)
  | 0, _, _, _, _, _, _, _ => none
  | k + 1, x3, x358000, x358001, x358002, x358003, x358004, x358005 => if (Go.bits .and .i64 x358002 1) = 0 then (client_line.j1 k x3 x358000 x358001 x358002 x358003 x358004 x358005) else (if x3.length < 8796093022208 then (client_line.j1 k (x3 ++ [(⟨#[100, 101, 118, 105, 99, 101]⟩ : ByteArray)]) x358000 x358001 x358002 x358003 x358004 x358005) else (none))
def client_line.j1 : Nat → List ByteArray → ByteArray → ByteArray → Int → Bool → ByteArray → List ByteArray → Option (ByteArray)
  | 0, _, _, _, _, _, _, _ => none
  | k + 1, x3, x358000, x358001, x358002, x358003, x358004, x358005 => if x358003 = true then (client_line.j2 k x3 (⟨#[121, 101, 115]⟩ : ByteArray) x358000 x358001 x358002 x358003 x358004 x358005) else (client_line.j2 k x3 (⟨#[]⟩ : ByteArray) x358000 x358001 x358002 x358003 x358004 x358005)
def client_line.j2 : Nat → List ByteArray → ByteArray → ByteArray → ByteArray → Int → Bool → ByteArray → List ByteArray → Option (ByteArray)
  | 0, _, _, _, _, _, _, _, _ => none
  | k + 1, x3, x4, x358000, x358001, x358002, x358003, x358004, x358005 => (strings_Join.f x3 (⟨#[32]⟩ : ByteArray)).bind fun t364 => ((strings_Join.f x358005 (⟨#[32]⟩ : ByteArray)).bind fun t365 => ((api_Pair.f (([(⟨(⟨#[105, 100]⟩ : ByteArray), x358000⟩ : S68), (⟨(⟨#[115, 101, 99, 114, 101, 116]⟩ : ByteArray), x358001⟩ : S68), (⟨(⟨#[103, 114, 97, 110, 116, 115]⟩ : ByteArray), t364⟩ : S68), (⟨(⟨#[112, 105, 110, 103]⟩ : ByteArray), x4⟩ : S68), (⟨(⟨#[117, 114, 108]⟩ : ByteArray), x358004⟩ : S68), (⟨(⟨#[115, 99, 111, 112, 101]⟩ : ByteArray), t365⟩ : S68)] : List (S68)))).bind fun t369 => ((urlform_Print.f t369).bind fun t372 => (if t372.size + 1 ≤ 9223372036854775807 then (some (t372 ++ (⟨#[10]⟩ : ByteArray))) else (none)))))
end
def client_line.f (k : Nat) (a0_0 : ByteArray) (a0_1 : ByteArray) (a0_2 : Int) (a0_3 : Bool) (a0_4 : ByteArray) (l0_5 : List ByteArray) : Option (ByteArray) := if (Go.bits .and .i64 a0_2 2) = 0 then (client_line.j0 k ([] : List ByteArray) a0_0 a0_1 a0_2 a0_3 a0_4 l0_5) else (if ([] : List ByteArray).length < 8796093022208 then (client_line.j0 k (([] : List ByteArray) ++ [(⟨#[99, 105, 98, 97]⟩ : ByteArray)]) a0_0 a0_1 a0_2 a0_3 a0_4 l0_5) else (none))
def client_line.T9 : Bool × List (List Nat × List Nat) := (true, [([], []), ([0], [0]), ([1], [1]), ([], []), ([3], [3]), ([4], [4]), ([], []), ([6], [6]), ([7], [7]), ([], []), ([9], [9]), ([], []), ([11], [11]), ([12], [12]), ([], []), ([14], [14]), ([15, 7], [15]), ([16], [16]), ([2, 5, 8, 10, 13, 17], [2, 5, 8, 10, 13, 17]), ([18, 16, 0, 1, 2, 3, 4, 5, 6, 7, 8, 9, 10, 11, 12, 13, 14, 15, 16, 17, 18], [18])])
def client_line.B9 : List Nat := [0, 1, 3, 0, 8, 24, 0, 64, 192, 0, 512, 0, 2048, 6144, 0, 16384, 49344, 114880, 262143, 524287]
theorem client_line.tab9 : rtab .any (opsOf Tryz.f46 9) = client_line.T9 := by kernel_rfl
theorem client_line.bits9 : waitsOk client_line.T9.2 client_line.B9 = true := by kernel_rfl
set_option maxHeartbeats 8000000 in
set_option maxRecDepth 100000 in
theorem client_line.calls (k : Nat) (a0_0 : ByteArray) (a0_1 : ByteArray) (a0_2 : Int) (a0_3 : Bool) (a0_4 : ByteArray) (A0_5 : Option Addr) (c0_5 : Nat) (l0_5 : List ByteArray) (r : ByteArray) (w : World) (hr0_5 : Kd.C Kd.string w A0_5 l0_5.length l0_5) (hc0_5 : l0_5.length ≤ c0_5) (h : client_line.f k a0_0 a0_1 a0_2 a0_3 a0_4 l0_5 = some r) :
    Calls Tryz.prog 46 #[.agg #[.string a0_0, .string a0_1, .int .i64 a0_2, .bool a0_3, .string a0_4, .slice A0_5 l0_5.length c0_5]] w fun e w' => e = .returned (.string r) ∧ Below w.heap.size w w' := by
  have hu40 := Tryz.underlying40
  have hu68 := Tryz.underlying68
  have HR0_5 := Aside0.mk hr0_5
  have HC0_5 := Aside0.mk hc0_5
  clear hr0_5 hc0_5
  have HB := Aside0.mk (Below.refl w.heap.size w)
  have H : (if (Go.bits .and .i64 a0_2 2) = 0 then (client_line.j0 k ([] : List ByteArray) a0_0 a0_1 a0_2 a0_3 a0_4 l0_5) else (if ([] : List ByteArray).length < 8796093022208 then (client_line.j0 k (([] : List ByteArray) ++ [(⟨#[99, 105, 98, 97]⟩ : ByteArray)]) a0_0 a0_1 a0_2 a0_3 a0_4 l0_5) else (none))) = some r := h
  clear h
  have HC2 := Aside0.mk H
  clear H
  go_enter Tryz.func46, Tryz.ntmps46
  go_upto_if 9 with (first | ((with_reducible refine gate_dst (N := 1) rfl ?_); refine box_event ?hg (N := 1) ?hd (cs := #[.string a0_0, .string a0_1, .int .i64 a0_2, .bool a0_3, .string a0_4, .slice A0_5 l0_5.length c0_5]) (t := 40) ?hr ?_; (case hd => rfl); (case hg => rfl); (case hr => first | (go_simp; done) | (go_simp; rfl)); intro gb357 hg w3 hbox hb; have n0_ := Aside0.mk (below_step (by repeat (first | (with_reducible first | exact HB.out | apply below_alloc | apply pw_below_drewN | apply below_drew1) | exact HB.out)) hb); have n1_ := Aside0.mk (hbox); have n2_ := Aside0.mk ((by rw [hg]; exact (below_size (by repeat (first | (with_reducible first | exact HB.out | apply below_alloc | apply pw_below_drewN | apply below_drew1) | exact HB.out))) : w.heap.size ≤ gb357)); have n3_ := Aside0.mk ((by rw [hg]; exact (below_size (by repeat (first | (with_reducible first | exact HB.out | apply below_alloc | apply pw_below_drewN | apply below_drew1) | exact HB.out))) : w.heap.size ≤ gb357)); clear HB; have HB := n0_; have BK357 := n1_; have GW357 := n2_; have GE357 := n3_; clear n0_ n1_ n2_ n3_; clear hb hbox hg; have hcz4_0 : w3.cell? ⟨gb357, 0, none⟩ = some (.string a0_0) := (blk_cell BK357.out 0).trans rfl; have hcz4_1 : w3.cell? ⟨gb357, 1, none⟩ = some (.string a0_1) := (blk_cell BK357.out 1).trans rfl; have hcz4_2 : w3.cell? ⟨gb357, 2, none⟩ = some (.int .i64 a0_2) := (blk_cell BK357.out 2).trans rfl; have hcz4_3 : w3.cell? ⟨gb357, 3, none⟩ = some (.bool a0_3) := (blk_cell BK357.out 3).trans rfl; have hcz4_4 : w3.cell? ⟨gb357, 4, none⟩ = some (.string a0_4) := (blk_cell BK357.out 4).trans rfl; have hcz4_5 : w3.cell? ⟨gb357, 5, none⟩ = some (.slice A0_5 l0_5.length c0_5) := (blk_cell BK357.out 5).trans rfl; have hfz4_0 := blk_frozen BK357.out 0; have hfz4_1 := blk_frozen BK357.out 1; have hfz4_2 := blk_frozen BK357.out 2; have hfz4_3 := blk_frozen BK357.out 3; have hfz4_4 := blk_frozen BK357.out 4; have hfz4_5 := blk_frozen BK357.out 5))
  (try simp only [Act.put, List.setIfInBounds_toArray, List.set_cons_zero, List.set_cons_succ])
  go_cut [3] (fun v3 wc => ∃ (kq : Nat) (x3_1 : List ByteArray), Aside0 (client_line.j0 kq x3_1 a0_0 a0_1 a0_2 a0_3 a0_4 l0_5 = some r) ∧ Aside0 (kq ≤ k) ∧ Aside0 (Kd.R Kd.string 9 wc w.heap.size (fun _ => True) v3 x3_1) ∧ Aside0 (wc.heap[gb357]? = some (.cells #[.string a0_0, .string a0_1, .int .i64 a0_2, .bool a0_3, .string a0_4, (.slice A0_5 l0_5.length c0_5)] 40 (0, 0))) ∧ Aside0 (Below w.heap.size w wc))
  case first =>
    have H := HC2.out
    clear HC2
    by_cases c5 : (Go.bits .and .i64 a0_2 2) = 0
    · rw [if_pos c5] at H
      have c5b0 : ((Go.bits .and .i64 a0_2 2) == 0) = true := beq_iff_eq.mpr c5
      have c5b1 : ((Go.bits .and .i64 a0_2 2) != 0) = false := bne_eq_false_iff_eq.mpr c5
      clear c5
      (first | rw [c5b0] | (simp only [i64_w, i32_w]; rw [c5b0]) | skip)
      have H' := Aside0.mk H
      clear H
      go_wp2
      go_meet
      case rel => exact ⟨_, (([] : List ByteArray)), H', ⟨by first | omega | exact Nat.le_refl _⟩, ⟨by first | exact Kd.R_nil _ _ _ _ _ | exact Kd.N_nil _ _ _ _ _ | exact Kd.V_nil _ _ _ _ _ | exact Kd.Q_nil _ _ _ _ _ | exact Kd.S_nil _ _ _ _ _⟩, ⟨by (with_reducible repeat (first | refine blk_drewN ?_ _ | refine blk_drew ?_ | refine blk_alloc ?_ _)); exact BK357.out⟩, ⟨by repeat (first | (with_reducible first | exact HB.out | apply below_alloc | apply pw_below_drewN | apply below_drew1 | refine below_set ?_ GE357.out) | exact HB.out)⟩⟩
    · rw [if_neg c5] at H
      have c5b0 : ((Go.bits .and .i64 a0_2 2) == 0) = false := beq_eq_false_iff_ne.mpr c5
      have c5b1 : ((Go.bits .and .i64 a0_2 2) != 0) = true := bne_iff_ne.mpr c5
      (first | rw [c5b0] | (simp only [i64_w, i32_w]; rw [c5b0]) | skip)
      by_cases c6 : ([] : List ByteArray).length < 8796093022208
      · rw [if_pos c6] at H
        have LMc6 := Aside0.mk c6
        clear c6
        obtain ⟨y358, hy358⟩ : ∃ y_ : List ByteArray, y_ = (([] : List ByteArray) ++ [(⟨#[99, 105, 98, 97]⟩ : ByteArray)]) := ⟨_, rfl⟩
        replace H : (client_line.j0 k y358 a0_0 a0_1 a0_2 a0_3 a0_4 l0_5) = some r := by first | (rw [hy358]; with_reducible exact H) | (have H2_ := (Option.bind_some _ _).symm.trans H; rw [hy358]; with_reducible exact H2_) | (have H2_ := (Option.bind_some _ _).symm.trans H; with_reducible exact H2_) | with_reducible exact H | (rw [hy358]; exact H) | exact H
        have Ny358 := Aside0.mk hy358
        clear hy358
        have H' := Aside0.mk H
        clear H
        go_wp2_with (first | ((with_reducible refine gate_builtin (b := .append) (xs := #[.tmp 10, .tmp 11]) rfl ?_); at_builtin; refine Kd.R_append Kd.string (w0 := w) w.heap.size rfl (.tmp 10) (.tmp 11) 38 9 (.string ⟨#[]⟩) 16 rfl Tryz.underlying38 info9 rfl (by decide) (by omega) (.slice none 0 0) ([] : List ByteArray) (⟨#[99, 105, 98, 97]⟩ : ByteArray) [.string (⟨#[99, 105, 98, 97]⟩ : ByteArray)] (fun _ => True) (fun _ => False) rfl rfl ?aP (fun _ hk => hk.elim) ?aF ?aO ?aB ?aS ?aL ?_; (case aP => exact rfl); (case aB => exact (by repeat (first | (with_reducible first | exact HB.out | apply below_alloc | apply pw_below_drewN | apply below_drew1 | refine below_set ?_ GE357.out) | exact HB.out))); (case aF => exact (fun _ _ => trivial)); (case aO => exact ((Kd.R_nil _ _ _ _ (fun _ => True)))); (case aS => exact (below_size (by repeat (first | (with_reducible first | exact HB.out | apply below_alloc | apply pw_below_drewN | apply below_drew1 | refine below_set ?_ GE357.out) | exact HB.out)))); (case aL => have := LMc6.out; omega); intro v359 w7 ho hb hg hat; rw [← Ny358.out] at ho; have n0_ := Aside0.mk (blk_grown (g := gb357) (o := .cells #[.string a0_0, .string a0_1, .int .i64 a0_2, .bool a0_3, .string a0_4, .slice A0_5 l0_5.length c0_5] 40 (0, 0)) (by (with_reducible repeat (first | refine blk_drewN ?_ _ | refine blk_drew ?_ | refine blk_alloc ?_ _)); exact BK357.out) hg (by simp [Value.ownBlock])); have n1_ := Aside0.mk (hb); have n2_ := Aside0.mk (ho); clear BK357; clear HB; have BK357 := n0_; have HB := n1_; have HO360 := n2_; clear n0_ n1_ n2_; clear ho hb hg hat))
        go_meet
        case rel => exact ⟨_, (y358), H', ⟨by first | omega | exact Nat.le_refl _⟩, ⟨by (with_reducible repeat (first | apply Kd.R_alloc | apply Kd.R_drewN | apply Kd.R_drew)); exact HO360.out⟩, ⟨by (with_reducible repeat (first | refine blk_drewN ?_ _ | refine blk_drew ?_ | refine blk_alloc ?_ _)); exact BK357.out⟩, ⟨by repeat (first | (with_reducible first | exact HB.out | apply below_alloc | apply pw_below_drewN | apply below_drew1 | refine below_set ?_ GE357.out) | exact HB.out)⟩⟩
      · rw [if_neg c6] at H
        exact absurd H (by simp)
  case rest =>
    clear HC2
    try clear p2
    try clear c4
    try clear c5
    try clear c5b0
    try clear c5b1
    try clear c6
    try clear hcz4_0
    try clear hcz4_1
    try clear hcz4_2
    try clear hcz4_3
    try clear hcz4_4
    try clear hcz4_5
    try clear hfz4_0
    try clear hfz4_1
    try clear hfz4_2
    try clear hfz4_3
    try clear hfz4_4
    try clear hfz4_5
    obtain ⟨kq, x3_1, HA, HJ1, HO_3, BK357, HB⟩ := hcut
    cases kq with
    | zero => exact absurd HA.out (by simp [client_line.j0])
    | succ kj1 =>
      have H := HA.out
      clear HA
      simp only [client_line.j0] at H
      have HC8 := Aside0.mk H
      clear H
      have hcz9_0 : wc.cell? ⟨gb357, 0, none⟩ = some (.string a0_0) := (blk_cell BK357.out 0).trans rfl
      have hcz9_1 : wc.cell? ⟨gb357, 1, none⟩ = some (.string a0_1) := (blk_cell BK357.out 1).trans rfl
      have hcz9_2 : wc.cell? ⟨gb357, 2, none⟩ = some (.int .i64 a0_2) := (blk_cell BK357.out 2).trans rfl
      have hcz9_3 : wc.cell? ⟨gb357, 3, none⟩ = some (.bool a0_3) := (blk_cell BK357.out 3).trans rfl
      have hcz9_4 : wc.cell? ⟨gb357, 4, none⟩ = some (.string a0_4) := (blk_cell BK357.out 4).trans rfl
      have hcz9_5 : wc.cell? ⟨gb357, 5, none⟩ = some (.slice A0_5 l0_5.length c0_5) := (blk_cell BK357.out 5).trans rfl
      have hfz9_0 := blk_frozen BK357.out 0
      have hfz9_1 := blk_frozen BK357.out 1
      have hfz9_2 := blk_frozen BK357.out 2
      have hfz9_3 := blk_frozen BK357.out 3
      have hfz9_4 := blk_frozen BK357.out 4
      have hfz9_5 := blk_frozen BK357.out 5
      go_upto_if 16 with (fail)
      go_cut [3] (fun v3 wc => ∃ (kq : Nat) (x3_7 : List ByteArray), Aside0 (client_line.j1 kq x3_7 a0_0 a0_1 a0_2 a0_3 a0_4 l0_5 = some r) ∧ Aside0 (kq ≤ kj1) ∧ Aside0 (Kd.R Kd.string 9 wc w.heap.size (fun _ => True) v3 x3_7) ∧ Aside0 (wc.heap[gb357]? = some (.cells #[.string a0_0, .string a0_1, .int .i64 a0_2, .bool a0_3, .string a0_4, (.slice A0_5 l0_5.length c0_5)] 40 (0, 0))) ∧ Aside0 (Below w.heap.size w wc))
      case first =>
        have H := HC8.out
        clear HC8
        by_cases c10 : (Go.bits .and .i64 a0_2 1) = 0
        · rw [if_pos c10] at H
          have c10b0 : ((Go.bits .and .i64 a0_2 1) == 0) = true := beq_iff_eq.mpr c10
          have c10b1 : ((Go.bits .and .i64 a0_2 1) != 0) = false := bne_eq_false_iff_eq.mpr c10
          clear c10
          (first | rw [c10b0] | (simp only [i64_w, i32_w]; rw [c10b0]) | skip)
          have H' := Aside0.mk H
          clear H
          go_wp2
          go_meet
          case rel => exact ⟨_, (x3_1), H', ⟨by have := HJ1.out; first | omega | exact Nat.le_refl _⟩, ⟨by (with_reducible repeat (first | apply Kd.R_alloc | apply Kd.R_drewN | apply Kd.R_drew)); exact HO_3.out⟩, ⟨by (with_reducible repeat (first | refine blk_drewN ?_ _ | refine blk_drew ?_ | refine blk_alloc ?_ _)); exact BK357.out⟩, ⟨by repeat (first | (with_reducible first | exact HB.out | apply below_alloc | apply pw_below_drewN | apply below_drew1 | refine below_set ?_ GE357.out) | exact HB.out)⟩⟩
        · rw [if_neg c10] at H
          have c10b0 : ((Go.bits .and .i64 a0_2 1) == 0) = false := beq_eq_false_iff_ne.mpr c10
          have c10b1 : ((Go.bits .and .i64 a0_2 1) != 0) = true := bne_iff_ne.mpr c10
          (first | rw [c10b0] | (simp only [i64_w, i32_w]; rw [c10b0]) | skip)
          by_cases c11 : x3_1.length < 8796093022208
          · rw [if_pos c11] at H
            have LMc11 := Aside0.mk c11
            clear c11
            obtain ⟨y361, hy361⟩ : ∃ y_ : List ByteArray, y_ = (x3_1 ++ [(⟨#[100, 101, 118, 105, 99, 101]⟩ : ByteArray)]) := ⟨_, rfl⟩
            replace H : (client_line.j1 kj1 y361 a0_0 a0_1 a0_2 a0_3 a0_4 l0_5) = some r := by first | (rw [hy361]; with_reducible exact H) | (have H2_ := (Option.bind_some _ _).symm.trans H; rw [hy361]; with_reducible exact H2_) | (have H2_ := (Option.bind_some _ _).symm.trans H; with_reducible exact H2_) | with_reducible exact H | (rw [hy361]; exact H) | exact H
            have Ny361 := Aside0.mk hy361
            clear hy361
            have H' := Aside0.mk H
            clear H
            go_wp2_with (first | ((with_reducible refine gate_builtin (b := .append) (xs := #[.tmp 17, .tmp 18]) rfl ?_); at_builtin; refine Kd.R_append Kd.string (w0 := w) w.heap.size rfl (.tmp 17) (.tmp 18) 38 9 (.string ⟨#[]⟩) 16 rfl Tryz.underlying38 info9 rfl (by decide) (by omega) u3 x3_1 (⟨#[100, 101, 118, 105, 99, 101]⟩ : ByteArray) [.string (⟨#[100, 101, 118, 105, 99, 101]⟩ : ByteArray)] (fun _ => True) (fun _ => False) rfl rfl ?aP (fun _ hk => hk.elim) ?aF ?aO ?aB ?aS ?aL ?_; (case aP => exact rfl); (case aB => exact (by repeat (first | (with_reducible first | exact HB.out | apply below_alloc | apply pw_below_drewN | apply below_drew1 | refine below_set ?_ GE357.out) | exact HB.out))); (case aF => exact (fun _ _ => trivial)); (case aO => exact (by (with_reducible repeat (first | apply Kd.R_alloc | apply Kd.R_drewN | apply Kd.R_drew)); exact HO_3.out)); (case aS => exact (below_size (by repeat (first | (with_reducible first | exact HB.out | apply below_alloc | apply pw_below_drewN | apply below_drew1 | refine below_set ?_ GE357.out) | exact HB.out)))); (case aL => have := LMc11.out; omega); intro v362 w12 ho hb hg hat; rw [← Ny361.out] at ho; have n0_ := Aside0.mk (blk_grown (g := gb357) (o := .cells #[.string a0_0, .string a0_1, .int .i64 a0_2, .bool a0_3, .string a0_4, .slice A0_5 l0_5.length c0_5] 40 (0, 0)) (by (with_reducible repeat (first | refine blk_drewN ?_ _ | refine blk_drew ?_ | refine blk_alloc ?_ _)); exact BK357.out) hg (Kd.R_ne HO_3.out BK357.out (by decide))); have n1_ := Aside0.mk (hb); have n2_ := Aside0.mk (ho); clear BK357; clear HB; clear HO_3; have BK357 := n0_; have HB := n1_; have HO363 := n2_; clear n0_ n1_ n2_; clear ho hb hg hat))
            go_meet
            case rel => exact ⟨_, (y361), H', ⟨by have := HJ1.out; first | omega | exact Nat.le_refl _⟩, ⟨by (with_reducible repeat (first | apply Kd.R_alloc | apply Kd.R_drewN | apply Kd.R_drew)); exact HO363.out⟩, ⟨by (with_reducible repeat (first | refine blk_drewN ?_ _ | refine blk_drew ?_ | refine blk_alloc ?_ _)); exact BK357.out⟩, ⟨by repeat (first | (with_reducible first | exact HB.out | apply below_alloc | apply pw_below_drewN | apply below_drew1 | refine below_set ?_ GE357.out) | exact HB.out)⟩⟩
          · rw [if_neg c11] at H
            exact absurd H (by simp)
      case rest =>
        clear HC8
        try clear c1
        try clear p2
        try clear c4
        try clear c5
        try clear c5b0
        try clear c5b1
        try clear c6
        try clear c10
        try clear c10b0
        try clear c10b1
        try clear c11
        try clear hcz4_0
        try clear hcz4_1
        try clear hcz4_2
        try clear hcz4_3
        try clear hcz4_4
        try clear hcz4_5
        try clear hcz9_0
        try clear hcz9_1
        try clear hcz9_2
        try clear hcz9_3
        try clear hcz9_4
        try clear hcz9_5
        try clear hfz4_0
        try clear hfz4_1
        try clear hfz4_2
        try clear hfz4_3
        try clear hfz4_4
        try clear hfz4_5
        try clear hfz9_0
        try clear hfz9_1
        try clear hfz9_2
        try clear hfz9_3
        try clear hfz9_4
        try clear hfz9_5
        try clear p2
        obtain ⟨kq, x3_7, HA, HJ7, HO_3, BK357, HB⟩ := hcut
        cases kq with
        | zero => exact absurd HA.out (by simp [client_line.j1])
        | succ kj7 =>
          have H := HA.out
          clear HA
          simp only [client_line.j1] at H
          have HC13 := Aside0.mk H
          clear H
          have hcz14_0 : wc.cell? ⟨gb357, 0, none⟩ = some (.string a0_0) := (blk_cell BK357.out 0).trans rfl
          have hcz14_1 : wc.cell? ⟨gb357, 1, none⟩ = some (.string a0_1) := (blk_cell BK357.out 1).trans rfl
          have hcz14_2 : wc.cell? ⟨gb357, 2, none⟩ = some (.int .i64 a0_2) := (blk_cell BK357.out 2).trans rfl
          have hcz14_3 : wc.cell? ⟨gb357, 3, none⟩ = some (.bool a0_3) := (blk_cell BK357.out 3).trans rfl
          have hcz14_4 : wc.cell? ⟨gb357, 4, none⟩ = some (.string a0_4) := (blk_cell BK357.out 4).trans rfl
          have hcz14_5 : wc.cell? ⟨gb357, 5, none⟩ = some (.slice A0_5 l0_5.length c0_5) := (blk_cell BK357.out 5).trans rfl
          have hfz14_0 := blk_frozen BK357.out 0
          have hfz14_1 := blk_frozen BK357.out 1
          have hfz14_2 := blk_frozen BK357.out 2
          have hfz14_3 := blk_frozen BK357.out 3
          have hfz14_4 := blk_frozen BK357.out 4
          have hfz14_5 := blk_frozen BK357.out 5
          go_upto_if 21 with (fail)
          go_cut [4] (fun v4 wc => ∃ (kq : Nat) (x4_12 : ByteArray), v4 = .string x4_12 ∧ Aside0 (client_line.j2 kq x3_7 x4_12 a0_0 a0_1 a0_2 a0_3 a0_4 l0_5 = some r) ∧ Aside0 (kq ≤ kj7) ∧ Aside0 (Kd.R Kd.string 9 wc w.heap.size (fun _ => True) u3 x3_7) ∧ Aside0 (wc.heap[gb357]? = some (.cells #[.string a0_0, .string a0_1, .int .i64 a0_2, .bool a0_3, .string a0_4, (.slice A0_5 l0_5.length c0_5)] 40 (0, 0))) ∧ Aside0 (Below w.heap.size w wc))
          case first =>
            have H := HC13.out
            clear HC13
            by_cases c15 : a0_3 = true
            · subst c15
              have H1 : (client_line.j2 kj7 x3_7 (⟨#[121, 101, 115]⟩ : ByteArray) a0_0 a0_1 a0_2 true a0_4 l0_5) = some r := by rw [if_pos rfl] at H; exact H
              clear H
              have H := H1
              clear H1
              have H' := Aside0.mk H
              clear H
              go_wp2
              go_meet
              case rel => exact ⟨_, ((⟨#[121, 101, 115]⟩ : ByteArray)), (by first | rfl | (simp; done) | (simp [*]; done) | (simp; (generalize ByteArray.toList _ = z_); cases z_ <;> rfl)), H', ⟨by have := HJ1.out; have := HJ7.out; first | omega | exact Nat.le_refl _⟩, ⟨by (with_reducible repeat (first | apply Kd.R_alloc | apply Kd.R_drewN | apply Kd.R_drew)); exact HO_3.out⟩, ⟨by (with_reducible repeat (first | refine blk_drewN ?_ _ | refine blk_drew ?_ | refine blk_alloc ?_ _)); exact BK357.out⟩, ⟨by repeat (first | (with_reducible first | exact HB.out | apply below_alloc | apply pw_below_drewN | apply below_drew1 | refine below_set ?_ GE357.out) | exact HB.out)⟩⟩
            · replace c15 := Bool.eq_false_iff.mpr c15
              subst c15
              have H1 : (client_line.j2 kj7 x3_7 (⟨#[]⟩ : ByteArray) a0_0 a0_1 a0_2 false a0_4 l0_5) = some r := by rw [if_neg (show ¬ (false = true) by decide)] at H; exact H
              clear H
              have H := H1
              clear H1
              have H' := Aside0.mk H
              clear H
              go_wp2
              go_meet
              case rel => exact ⟨_, ((⟨#[]⟩ : ByteArray)), (by first | rfl | (simp; done) | (simp [*]; done) | (simp; (generalize ByteArray.toList _ = z_); cases z_ <;> rfl)), H', ⟨by have := HJ1.out; have := HJ7.out; first | omega | exact Nat.le_refl _⟩, ⟨by (with_reducible repeat (first | apply Kd.R_alloc | apply Kd.R_drewN | apply Kd.R_drew)); exact HO_3.out⟩, ⟨by (with_reducible repeat (first | refine blk_drewN ?_ _ | refine blk_drew ?_ | refine blk_alloc ?_ _)); exact BK357.out⟩, ⟨by repeat (first | (with_reducible first | exact HB.out | apply below_alloc | apply pw_below_drewN | apply below_drew1 | refine below_set ?_ GE357.out) | exact HB.out)⟩⟩
          case rest =>
            clear HC13
            try clear c1
            try clear p2
            try clear c4
            try clear c5
            try clear c5b0
            try clear c5b1
            try clear c6
            try clear c10
            try clear c10b0
            try clear c10b1
            try clear c11
            try clear c15
            try clear hcz14_0
            try clear hcz14_1
            try clear hcz14_2
            try clear hcz14_3
            try clear hcz14_4
            try clear hcz14_5
            try clear hcz4_0
            try clear hcz4_1
            try clear hcz4_2
            try clear hcz4_3
            try clear hcz4_4
            try clear hcz4_5
            try clear hcz9_0
            try clear hcz9_1
            try clear hcz9_2
            try clear hcz9_3
            try clear hcz9_4
            try clear hcz9_5
            try clear hfz14_0
            try clear hfz14_1
            try clear hfz14_2
            try clear hfz14_3
            try clear hfz14_4
            try clear hfz14_5
            try clear hfz4_0
            try clear hfz4_1
            try clear hfz4_2
            try clear hfz4_3
            try clear hfz4_4
            try clear hfz4_5
            try clear hfz9_0
            try clear hfz9_1
            try clear hfz9_2
            try clear hfz9_3
            try clear hfz9_4
            try clear hfz9_5
            try clear p2
            obtain ⟨kq, x4_12, rfl, HA, HJ12, HO_3, BK357, HB⟩ := hcut
            cases kq with
            | zero => exact absurd HA.out (by simp [client_line.j2])
            | succ kj12 =>
              have H := HA.out
              clear HA
              simp only [client_line.j2] at H
              replace H := Option.bind_eq_some_iff.mp H
              obtain ⟨t364, A160, H⟩ := H
              replace H : ((strings_Join.f l0_5 (⟨#[32]⟩ : ByteArray)).bind fun t365 => ((api_Pair.f (([(⟨(⟨#[105, 100]⟩ : ByteArray), a0_0⟩ : S68), (⟨(⟨#[115, 101, 99, 114, 101, 116]⟩ : ByteArray), a0_1⟩ : S68), (⟨(⟨#[103, 114, 97, 110, 116, 115]⟩ : ByteArray), t364⟩ : S68), (⟨(⟨#[112, 105, 110, 103]⟩ : ByteArray), x4_12⟩ : S68), (⟨(⟨#[117, 114, 108]⟩ : ByteArray), a0_4⟩ : S68), (⟨(⟨#[115, 99, 111, 112, 101]⟩ : ByteArray), t365⟩ : S68)] : List (S68)))).bind fun t369 => ((urlform_Print.f t369).bind fun t372 => (if t372.size + 1 ≤ 9223372036854775807 then (some (t372 ++ (⟨#[10]⟩ : ByteArray))) else (none))))) = some r := H
              have A16 := Aside0.mk A160
              clear A160
              replace H := Option.bind_eq_some_iff.mp H
              obtain ⟨t365, A170, H⟩ := H
              replace H : ((api_Pair.f (([(⟨(⟨#[105, 100]⟩ : ByteArray), a0_0⟩ : S68), (⟨(⟨#[115, 101, 99, 114, 101, 116]⟩ : ByteArray), a0_1⟩ : S68), (⟨(⟨#[103, 114, 97, 110, 116, 115]⟩ : ByteArray), t364⟩ : S68), (⟨(⟨#[112, 105, 110, 103]⟩ : ByteArray), x4_12⟩ : S68), (⟨(⟨#[117, 114, 108]⟩ : ByteArray), a0_4⟩ : S68), (⟨(⟨#[115, 99, 111, 112, 101]⟩ : ByteArray), t365⟩ : S68)] : List (S68)))).bind fun t369 => ((urlform_Print.f t369).bind fun t372 => (if t372.size + 1 ≤ 9223372036854775807 then (some (t372 ++ (⟨#[10]⟩ : ByteArray))) else (none)))) = some r := H
              have A17 := Aside0.mk A170
              clear A170
              obtain ⟨y366, hy366⟩ : ∃ y_ : List (S68), y_ = (([(⟨(⟨#[105, 100]⟩ : ByteArray), a0_0⟩ : S68), (⟨(⟨#[115, 101, 99, 114, 101, 116]⟩ : ByteArray), a0_1⟩ : S68), (⟨(⟨#[103, 114, 97, 110, 116, 115]⟩ : ByteArray), t364⟩ : S68), (⟨(⟨#[112, 105, 110, 103]⟩ : ByteArray), x4_12⟩ : S68), (⟨(⟨#[117, 114, 108]⟩ : ByteArray), a0_4⟩ : S68), (⟨(⟨#[115, 99, 111, 112, 101]⟩ : ByteArray), t365⟩ : S68)] : List (S68))) := ⟨_, rfl⟩
              replace H : ((api_Pair.f y366).bind fun t369 => ((urlform_Print.f t369).bind fun t372 => (if t372.size + 1 ≤ 9223372036854775807 then (some (t372 ++ (⟨#[10]⟩ : ByteArray))) else (none)))) = some r := by first | (rw [hy366]; with_reducible exact H) | (have H2_ := (Option.bind_some _ _).symm.trans H; rw [hy366]; with_reducible exact H2_) | (have H2_ := (Option.bind_some _ _).symm.trans H; with_reducible exact H2_) | with_reducible exact H | (rw [hy366]; exact H) | exact H
              have Ny366 := Aside0.mk hy366
              clear hy366
              replace H := Option.bind_eq_some_iff.mp H
              obtain ⟨t369, A180, H⟩ := H
              replace H : ((urlform_Print.f t369).bind fun t372 => (if t372.size + 1 ≤ 9223372036854775807 then (some (t372 ++ (⟨#[10]⟩ : ByteArray))) else (none))) = some r := H
              have A18 := Aside0.mk A180
              clear A180
              replace H := Option.bind_eq_some_iff.mp H
              obtain ⟨t372, A190, H⟩ := H
              replace H : (if t372.size + 1 ≤ 9223372036854775807 then (some (t372 ++ (⟨#[10]⟩ : ByteArray))) else (none)) = some r := H
              have A19 := Aside0.mk A190
              clear A190
              by_cases c20 : t372.size + 1 ≤ 9223372036854775807
              · rw [if_pos c20] at H
                have c20b0 := eq_true c20
                have c20b1 : decide (t372.size + 1 ≤ 9223372036854775807) = true := decide_eq_true c20
                try have c20b2 : (9223372036854775807 < t372.size + 1) = False := eq_false (Nat.not_lt.2 c20)
                obtain rfl := Option.some.inj H
                try go_wp2
                have n0_ := Aside0.mk (Kd.R_drew HO_3.out)
                have n1_ := Aside0.mk (blk_drew BK357.out)
                have n2_ := Aside0.mk (below_drew1 HB.out)
                clear HO_3
                clear BK357
                clear HB
                have HO_3 := n0_
                have BK357 := n1_
                have HB := n2_
                clear n0_ n1_ n2_
                obtain ⟨Ao22, co22, eo22⟩ := Kd.R_slice HO_3.out
                (first | subst eo22 | (injection eo22 with f1_ f2_ f3_; have f4_ := f1_.symm; have f5_ := f3_.symm; clear f1_ f2_ f3_; subst f4_; subst f5_))
                refine start_ (n := 20) (S := fun w' => w'.cell? ⟨gb357, 0, none⟩ = some (.string a0_0) ∧ w'.cell? ⟨gb357, 1, none⟩ = some (.string a0_1) ∧ w'.cell? ⟨gb357, 2, none⟩ = some (.int .i64 a0_2) ∧ w'.cell? ⟨gb357, 3, none⟩ = some (.bool a0_3) ∧ w'.cell? ⟨gb357, 4, none⟩ = some (.string a0_4) ∧ w'.cell? ⟨gb357, 5, none⟩ = some (.slice A0_5 l0_5.length c0_5)) (ds := []) #[false, false, false, false, false, false, false, false, false, false, false, false, false, false, false, false, false, false, false, false] (by kernel_rfl) rfl rfl ⟨(blk_cell BK357.out 0).trans rfl, (blk_cell BK357.out 1).trans rfl, (blk_cell BK357.out 2).trans rfl, (blk_cell BK357.out 3).trans rfl, (blk_cell BK357.out 4).trans rfl, (blk_cell BK357.out 5).trans rfl⟩ (fun hHeld => ?_); refine with_tabW client_line.tab9 client_line.bits9 (fun HT_ HW_ => ?_)
                generalize wc.drew = w21 at HO_3 BK357 HB hHeld ⊢
                refine pure_ (i := 0) (N := some 22) (v := ?_) (a' := ?_) #[true, false, false, false, false, false, false, false, false, false, false, false, false, false, false, false, false, false, false, false] rfl rfl (any_of HT_.out (by kernel_rfl)) (fun _ _ _ h => h) (Or.inl ⟨by rfl, ?_⟩) ?_ ?_
                rotate_left
                · intro w'
                  go_simp
                  with_reducible rfl
                rotate_left
                · simp only [Act.put, List.setIfInBounds_toArray, List.set_cons_zero, List.set_cons_succ, i64_w, i32_w]
                  rfl
                refine pure_ (i := 3) (N := some 25) (v := ?_) (a' := ?_) #[true, false, false, true, false, false, false, false, false, false, false, false, false, false, false, false, false, false, false, false] rfl rfl (any_of HT_.out (by kernel_rfl)) (fun _ _ _ h => h) (Or.inl ⟨by rfl, ?_⟩) ?_ ?_
                rotate_left
                · intro w'
                  go_simp
                  with_reducible rfl
                rotate_left
                · simp only [Act.put, List.setIfInBounds_toArray, List.set_cons_zero, List.set_cons_succ, i64_w, i32_w]
                  rfl
                refine pure_ (i := 6) (N := some 28) (v := ?_) (a' := ?_) #[true, false, false, true, false, false, true, false, false, false, false, false, false, false, false, false, false, false, false, false] rfl rfl (any_of HT_.out (by kernel_rfl)) (fun _ _ _ h => h) (Or.inl ⟨by rfl, ?_⟩) ?_ ?_
                rotate_left
                · intro w'
                  go_simp
                  with_reducible rfl
                rotate_left
                · simp only [Act.put, List.setIfInBounds_toArray, List.set_cons_zero, List.set_cons_succ, i64_w, i32_w]
                  rfl
                refine pure_ (i := 9) (N := some 31) (v := ?_) (a' := ?_) #[true, false, false, true, false, false, true, false, false, true, false, false, false, false, false, false, false, false, false, false] rfl rfl (any_of HT_.out (by kernel_rfl)) (fun _ _ _ h => h) (Or.inl ⟨by rfl, ?_⟩) ?_ ?_
                rotate_left
                · intro w'
                  go_simp
                  with_reducible rfl
                rotate_left
                · simp only [Act.put, List.setIfInBounds_toArray, List.set_cons_zero, List.set_cons_succ, i64_w, i32_w]
                  rfl
                refine pure_ (i := 10) (N := some 32) (v := ?_) (a' := ?_) #[true, false, false, true, false, false, true, false, false, true, true, false, false, false, false, false, false, false, false, false] rfl rfl (any_of HT_.out (by kernel_rfl)) (fun _ _ _ h => h) (Or.inl ⟨by rfl, ?_⟩) ?_ ?_
                rotate_left
                · intro w'
                  go_simp
                  with_reducible rfl
                rotate_left
                · simp only [Act.put, List.setIfInBounds_toArray, List.set_cons_zero, List.set_cons_succ, i64_w, i32_w]
                  rfl
                refine pure_ (i := 11) (N := some 33) (v := ?_) (a' := ?_) #[true, false, false, true, false, false, true, false, false, true, true, true, false, false, false, false, false, false, false, false] rfl rfl (any_of HT_.out (by kernel_rfl)) (fun _ _ _ h => h) (Or.inl ⟨by rfl, ?_⟩) ?_ ?_
                rotate_left
                · intro w'
                  go_simp
                  with_reducible rfl
                rotate_left
                · simp only [Act.put, List.setIfInBounds_toArray, List.set_cons_zero, List.set_cons_succ, i64_w, i32_w]
                  rfl
                refine pure_ (i := 14) (N := some 36) (v := ?_) (a' := ?_) #[true, false, false, true, false, false, true, false, false, true, true, true, false, false, true, false, false, false, false, false] rfl rfl (any_of HT_.out (by kernel_rfl)) (fun _ _ _ h => h) (Or.inl ⟨by rfl, ?_⟩) ?_ ?_
                rotate_left
                · intro w'
                  go_simp
                  with_reducible rfl
                rotate_left
                · simp only [Act.put, List.setIfInBounds_toArray, List.set_cons_zero, List.set_cons_succ, i64_w, i32_w]
                  rfl
                refine take_ (i := 1) (N := some 23) (v := ?_) (a' := ?_) #[true, true, false, true, false, false, true, false, false, true, true, true, false, false, true, false, false, false, false, false] rfl rfl (take_ofW HT_.out HW_.out (by kernel_rfl)) (fun _ _ _ h => h) (Or.inl ⟨by rfl, ?_⟩) hHeld ?_ ?_
                rotate_left
                · rintro w' ⟨s0, s1, s2, s3, s4, s5⟩
                  go_simp
                  with_reducible rfl
                rotate_left
                · simp only [Act.put, List.setIfInBounds_toArray, List.set_cons_zero, List.set_cons_succ, i64_w, i32_w]
                  rfl
                refine pure_ (i := 2) (N := some 24) (v := ?_) (a' := ?_) #[true, true, true, true, false, false, true, false, false, true, true, true, false, false, true, false, false, false, false, false] rfl rfl (any_of HT_.out (by kernel_rfl)) (fun _ _ _ h => h) (Or.inl ⟨by rfl, ?_⟩) ?_ ?_
                rotate_left
                · intro w'
                  go_simp
                  with_reducible rfl
                rotate_left
                · simp only [Act.put, List.setIfInBounds_toArray, List.set_cons_zero, List.set_cons_succ, i64_w, i32_w]
                  rfl
                refine take_ (i := 4) (N := some 26) (v := ?_) (a' := ?_) #[true, true, true, true, true, false, true, false, false, true, true, true, false, false, true, false, false, false, false, false] rfl rfl (take_ofW HT_.out HW_.out (by kernel_rfl)) (fun _ _ _ h => h) (Or.inl ⟨by rfl, ?_⟩) hHeld ?_ ?_
                rotate_left
                · rintro w' ⟨s0, s1, s2, s3, s4, s5⟩
                  go_simp
                  with_reducible rfl
                rotate_left
                · simp only [Act.put, List.setIfInBounds_toArray, List.set_cons_zero, List.set_cons_succ, i64_w, i32_w]
                  rfl
                refine pure_ (i := 5) (N := some 27) (v := ?_) (a' := ?_) #[true, true, true, true, true, true, true, false, false, true, true, true, false, false, true, false, false, false, false, false] rfl rfl (any_of HT_.out (by kernel_rfl)) (fun _ _ _ h => h) (Or.inl ⟨by rfl, ?_⟩) ?_ ?_
                rotate_left
                · intro w'
                  go_simp
                  with_reducible rfl
                rotate_left
                · simp only [Act.put, List.setIfInBounds_toArray, List.set_cons_zero, List.set_cons_succ, i64_w, i32_w]
                  rfl
                refine take_ (i := 12) (N := some 34) (v := ?_) (a' := ?_) #[true, true, true, true, true, true, true, false, false, true, true, true, true, false, true, false, false, false, false, false] rfl rfl (take_ofW HT_.out HW_.out (by kernel_rfl)) (fun _ _ _ h => h) (Or.inl ⟨by rfl, ?_⟩) hHeld ?_ ?_
                rotate_left
                · rintro w' ⟨s0, s1, s2, s3, s4, s5⟩
                  go_simp
                  with_reducible rfl
                rotate_left
                · simp only [Act.put, List.setIfInBounds_toArray, List.set_cons_zero, List.set_cons_succ, i64_w, i32_w]
                  rfl
                refine pure_ (i := 13) (N := some 35) (v := ?_) (a' := ?_) #[true, true, true, true, true, true, true, false, false, true, true, true, true, true, true, false, false, false, false, false] rfl rfl (any_of HT_.out (by kernel_rfl)) (fun _ _ _ h => h) (Or.inl ⟨by rfl, ?_⟩) ?_ ?_
                rotate_left
                · intro w'
                  go_simp
                  with_reducible rfl
                rotate_left
                · simp only [Act.put, List.setIfInBounds_toArray, List.set_cons_zero, List.set_cons_succ, i64_w, i32_w]
                  rfl
                refine take_ (i := 15) (N := some 37) (v := ?_) (a' := ?_) #[true, true, true, true, true, true, true, false, false, true, true, true, true, true, true, true, false, false, false, false] rfl rfl (take_ofW HT_.out HW_.out (by kernel_rfl)) (fun _ _ _ h => h) (Or.inl ⟨by rfl, ?_⟩) hHeld ?_ ?_
                rotate_left
                · rintro w' ⟨s0, s1, s2, s3, s4, s5⟩
                  go_simp
                  with_reducible rfl
                rotate_left
                · simp only [Act.put, List.setIfInBounds_toArray, List.set_cons_zero, List.set_cons_succ, i64_w, i32_w]
                  rfl
                refine one_ (i := 7) (N := some 29) #[true, true, true, true, true, true, true, true, false, true, true, true, true, true, true, true, false, false, false, false] rfl rfl (one_of HT_.out (by kernel_rfl)) (by decide) (fun K hK => ?_)
                refine goes_ Tryz.func55 (by kernel_rfl) rfl #[.slice Ao22 x3_7.length co22, .string (⟨#[32]⟩ : ByteArray)] (by rfl) rfl rfl (by (try simp only [List.map_toArray, List.map_cons, List.map_nil]); first | done | rfl | (simp only [List.length_drop, List.length_take]; rfl)) ?_
                with_reducible refine (strings_Join.calls _ _ x3_7 (⟨#[32]⟩ : ByteArray) t364 _ ?side1 ?side2 A16.out).mono ?_
                (case side1 => repeat (first | exact (Kd.R_reads' HO_3.out).2.2 | (with_reducible refine Kd.C_alloc ?_ _) | (with_reducible refine Kd.C_drewN ?_ _) | (with_reducible refine Kd.C_drew ?_)))
                (case side2 => exact (Kd.R_reads' HO_3.out).2.1)
                rintro e w23 ⟨rfl, hb⟩
                refine ⟨_, rfl, ?_⟩
                have n0_ := Aside0.mk (Kd.R_below (by (with_reducible repeat (first | apply Kd.R_alloc | apply Kd.R_drewN | apply Kd.R_drew)); exact HO_3.out) hb)
                have n1_ := Aside0.mk (blk_below (g := gb357) (o := .cells #[.string a0_0, .string a0_1, .int .i64 a0_2, .bool a0_3, .string a0_4, .slice A0_5 l0_5.length c0_5] 40 (0, 0)) (by (with_reducible repeat (first | refine blk_drewN ?_ _ | refine blk_drew ?_ | refine blk_alloc ?_ _)); exact BK357.out) hb)
                have n2_ := Aside0.mk (below_step (by repeat (first | (with_reducible first | exact HB.out | apply below_alloc | apply pw_below_drewN | apply below_drew1 | refine below_set ?_ GE357.out) | exact HB.out)) hb)
                clear HO_3
                clear BK357
                clear HB
                have HO_3 := n0_
                have BK357 := n1_
                have HB := n2_
                clear n0_ n1_ n2_
                (try clear hb)
                (try clear hb2)
                (try clear hk)
                (try clear hi)
                refine hK.out _ _ ⟨(blk_cell BK357.out 0).trans rfl, (blk_cell BK357.out 1).trans rfl, (blk_cell BK357.out 2).trans rfl, (blk_cell BK357.out 3).trans rfl, (blk_cell BK357.out 4).trans rfl, (blk_cell BK357.out 5).trans rfl⟩ (fun hHeld => ?_)
                clear hK K
                refine norm_ (a' := ?_) ?_ ?_
                rotate_left
                · show Act.put _ (some 29) _ = _
                  simp only [Act.put, List.setIfInBounds_toArray, List.set_cons_zero, List.set_cons_succ, i64_w, i32_w]
                  rfl
                refine pure_ (i := 8) (N := some 30) (v := ?_) (a' := ?_) #[true, true, true, true, true, true, true, true, true, true, true, true, true, true, true, true, false, false, false, false] rfl rfl (any_of HT_.out (by kernel_rfl)) (fun _ _ _ h => h) (Or.inl ⟨by rfl, ?_⟩) ?_ ?_
                rotate_left
                · intro w'
                  go_simp
                  with_reducible rfl
                rotate_left
                · simp only [Act.put, List.setIfInBounds_toArray, List.set_cons_zero, List.set_cons_succ, i64_w, i32_w]
                  rfl
                refine one_ (i := 16) (N := some 38) #[true, true, true, true, true, true, true, true, true, true, true, true, true, true, true, true, true, false, false, false] rfl rfl (one_of HT_.out (by kernel_rfl)) (by decide) (fun K hK => ?_)
                refine goes_ Tryz.func55 (by kernel_rfl) rfl #[.slice A0_5 l0_5.length c0_5, .string (⟨#[32]⟩ : ByteArray)] (by rfl) rfl rfl (by (try simp only [List.map_toArray, List.map_cons, List.map_nil]); first | done | rfl | (simp only [List.length_drop, List.length_take]; rfl)) ?_
                with_reducible refine (strings_Join.calls _ _ l0_5 (⟨#[32]⟩ : ByteArray) t365 _ ?side1 ?side2 A17.out).mono ?_
                (case side1 => repeat (first | exact (Kd.C_below HR0_5.out HB.out) | (with_reducible refine Kd.C_alloc ?_ _) | (with_reducible refine Kd.C_drewN ?_ _) | (with_reducible refine Kd.C_drew ?_)))
                (case side2 => exact HC0_5.out)
                rintro e w24 ⟨rfl, hb⟩
                refine ⟨_, rfl, ?_⟩
                have n0_ := Aside0.mk (Kd.R_below (by (with_reducible repeat (first | apply Kd.R_alloc | apply Kd.R_drewN | apply Kd.R_drew)); exact HO_3.out) hb)
                have n1_ := Aside0.mk (blk_below (g := gb357) (o := .cells #[.string a0_0, .string a0_1, .int .i64 a0_2, .bool a0_3, .string a0_4, .slice A0_5 l0_5.length c0_5] 40 (0, 0)) (by (with_reducible repeat (first | refine blk_drewN ?_ _ | refine blk_drew ?_ | refine blk_alloc ?_ _)); exact BK357.out) hb)
                have n2_ := Aside0.mk (below_step (by repeat (first | (with_reducible first | exact HB.out | apply below_alloc | apply pw_below_drewN | apply below_drew1 | refine below_set ?_ GE357.out) | exact HB.out)) hb)
                clear HO_3
                clear BK357
                clear HB
                have HO_3 := n0_
                have BK357 := n1_
                have HB := n2_
                clear n0_ n1_ n2_
                (try clear hb)
                (try clear hb2)
                (try clear hk)
                (try clear hi)
                refine hK.out _ _ ⟨(blk_cell BK357.out 0).trans rfl, (blk_cell BK357.out 1).trans rfl, (blk_cell BK357.out 2).trans rfl, (blk_cell BK357.out 3).trans rfl, (blk_cell BK357.out 4).trans rfl, (blk_cell BK357.out 5).trans rfl⟩ (fun hHeld => ?_)
                clear hK K
                refine norm_ (a' := ?_) ?_ ?_
                rotate_left
                · show Act.put _ (some 38) _ = _
                  simp only [Act.put, List.setIfInBounds_toArray, List.set_cons_zero, List.set_cons_succ, i64_w, i32_w]
                  rfl
                refine pure_ (i := 17) (N := some 39) (v := ?_) (a' := ?_) #[true, true, true, true, true, true, true, true, true, true, true, true, true, true, true, true, true, true, false, false] rfl rfl (any_of HT_.out (by kernel_rfl)) (fun _ _ _ h => h) (Or.inl ⟨by rfl, ?_⟩) ?_ ?_
                rotate_left
                · intro w'
                  go_simp
                  with_reducible rfl
                rotate_left
                · simp only [Act.put, List.setIfInBounds_toArray, List.set_cons_zero, List.set_cons_succ, i64_w, i32_w]
                  rfl
                refine one_ (i := 18) (N := some 40) #[true, true, true, true, true, true, true, true, true, true, true, true, true, true, true, true, true, true, true, false] rfl rfl (one_of HT_.out (by kernel_rfl)) (by decide) (fun K hK => ?_)
                refine Kd.R_lit_step k68 _ 68 ?hg (N := 40) ?hd (xs := ([(⟨(⟨#[105, 100]⟩ : ByteArray), a0_0⟩ : S68), (⟨(⟨#[115, 101, 99, 114, 101, 116]⟩ : ByteArray), a0_1⟩ : S68), (⟨(⟨#[103, 114, 97, 110, 116, 115]⟩ : ByteArray), t364⟩ : S68), (⟨(⟨#[112, 105, 110, 103]⟩ : ByteArray), x4_12⟩ : S68), (⟨(⟨#[117, 114, 108]⟩ : ByteArray), a0_4⟩ : S68), (⟨(⟨#[115, 99, 111, 112, 101]⟩ : ByteArray), t365⟩ : S68)] : List (S68))) (inner := [.string (⟨#[105, 100]⟩ : ByteArray), .string a0_0, .string (⟨#[115, 101, 99, 114, 101, 116]⟩ : ByteArray), .string a0_1, .string (⟨#[103, 114, 97, 110, 116, 115]⟩ : ByteArray), .string t364, .string (⟨#[112, 105, 110, 103]⟩ : ByteArray), .string x4_12, .string (⟨#[117, 114, 108]⟩ : ByteArray), .string a0_4, .string (⟨#[115, 99, 111, 112, 101]⟩ : ByteArray), .string t365]) (ok := fun _ => True) (okp := fun _ => True) ?hr ?hp (fun _ hk => hk) trivial (Below.refl _ _) (Nat.le_refl _) (by simp) ?_; (case hd => rfl); (case hg => rfl); (case hr => first | (go_simp; done) | (go_simp; rfl)); (case hp => exact (Reps.c2 (show Kd.M k68 _ _ _ (⟨(⟨#[105, 100]⟩ : ByteArray), a0_0⟩ : S68) [.string (⟨#[105, 100]⟩ : ByteArray), .string a0_0] from (k68_mkM _ _ _ (⟨(⟨#[105, 100]⟩ : ByteArray), a0_0⟩ : S68) )) (Reps.c2 (show Kd.M k68 _ _ _ (⟨(⟨#[115, 101, 99, 114, 101, 116]⟩ : ByteArray), a0_1⟩ : S68) [.string (⟨#[115, 101, 99, 114, 101, 116]⟩ : ByteArray), .string a0_1] from (k68_mkM _ _ _ (⟨(⟨#[115, 101, 99, 114, 101, 116]⟩ : ByteArray), a0_1⟩ : S68) )) (Reps.c2 (show Kd.M k68 _ _ _ (⟨(⟨#[103, 114, 97, 110, 116, 115]⟩ : ByteArray), t364⟩ : S68) [.string (⟨#[103, 114, 97, 110, 116, 115]⟩ : ByteArray), .string t364] from (k68_mkM _ _ _ (⟨(⟨#[103, 114, 97, 110, 116, 115]⟩ : ByteArray), t364⟩ : S68) )) (Reps.c2 (show Kd.M k68 _ _ _ (⟨(⟨#[112, 105, 110, 103]⟩ : ByteArray), x4_12⟩ : S68) [.string (⟨#[112, 105, 110, 103]⟩ : ByteArray), .string x4_12] from (k68_mkM _ _ _ (⟨(⟨#[112, 105, 110, 103]⟩ : ByteArray), x4_12⟩ : S68) )) (Reps.c2 (show Kd.M k68 _ _ _ (⟨(⟨#[117, 114, 108]⟩ : ByteArray), a0_4⟩ : S68) [.string (⟨#[117, 114, 108]⟩ : ByteArray), .string a0_4] from (k68_mkM _ _ _ (⟨(⟨#[117, 114, 108]⟩ : ByteArray), a0_4⟩ : S68) )) (Reps.c2 (show Kd.M k68 _ _ _ (⟨(⟨#[115, 99, 111, 112, 101]⟩ : ByteArray), t365⟩ : S68) [.string (⟨#[115, 99, 111, 112, 101]⟩ : ByteArray), .string t365] from (k68_mkM _ _ _ (⟨(⟨#[115, 99, 111, 112, 101]⟩ : ByteArray), t365⟩ : S68) )) (Reps.none _ _))))))))
                intro v367 w25 ho26 hb hg_ hnew_
                clear hg_ hnew_
                (first | rw [← Ny366.out] at ho26 | (simp only [Int.reduceToNat] at ho26; rw [← Ny366.out] at ho26))
                have n0_ := Aside0.mk (Kd.R_below (by (with_reducible repeat (first | apply Kd.R_alloc | apply Kd.R_drewN | apply Kd.R_drew)); exact HO_3.out) hb)
                have n1_ := Aside0.mk (Kd.R_lower ho26 (below_size (by repeat (first | (with_reducible first | exact HB.out | apply below_alloc | apply pw_below_drewN | apply below_drew1 | refine below_set ?_ GE357.out) | exact HB.out))))
                have n2_ := Aside0.mk (blk_below (g := gb357) (o := .cells #[.string a0_0, .string a0_1, .int .i64 a0_2, .bool a0_3, .string a0_4, .slice A0_5 l0_5.length c0_5] 40 (0, 0)) (by (with_reducible repeat (first | refine blk_drewN ?_ _ | refine blk_drew ?_ | refine blk_alloc ?_ _)); exact BK357.out) hb)
                have n3_ := Aside0.mk (below_step (by repeat (first | (with_reducible first | exact HB.out | apply below_alloc | apply pw_below_drewN | apply below_drew1 | refine below_set ?_ GE357.out) | exact HB.out)) hb)
                clear HO_3
                clear BK357
                clear HB
                have HO_3 := n0_
                have HO368 := n1_
                have BK357 := n2_
                have HB := n3_
                clear n0_ n1_ n2_ n3_
                clear hb ho26
                refine hK.out _ _ ⟨(blk_cell BK357.out 0).trans rfl, (blk_cell BK357.out 1).trans rfl, (blk_cell BK357.out 2).trans rfl, (blk_cell BK357.out 3).trans rfl, (blk_cell BK357.out 4).trans rfl, (blk_cell BK357.out 5).trans rfl⟩ (fun hHeld => ?_)
                clear hK K
                refine norm_ (a' := ?_) ?_ ?_
                rotate_left
                · show Act.put _ (some 40) _ = _
                  simp only [Act.put, List.setIfInBounds_toArray, List.set_cons_zero, List.set_cons_succ, i64_w, i32_w]
                  rfl
                refine pure_ (i := 19) (N := some 5) (v := ?_) (a' := ?_) #[true, true, true, true, true, true, true, true, true, true, true, true, true, true, true, true, true, true, true, true] rfl rfl (any_of HT_.out (by kernel_rfl)) (fun _ _ _ h => h) (Or.inl ⟨by rfl, ?_⟩) ?_ ?_
                rotate_left
                · intro w'
                  go_simp
                  with_reducible rfl
                rotate_left
                · simp only [Act.put, List.setIfInBounds_toArray, List.set_cons_zero, List.set_cons_succ, i64_w, i32_w]
                  rfl
                refine done_ (done_of HT_.out (by kernel_rfl)) ?_
                obtain ⟨Ao27, co27, eo27⟩ := Kd.R_slice HO368.out
                subst eo27
                try go_wp2_with (first | ((with_reducible refine gate_callee (f := 78) rfl ?_); refine goesL_ (some 42) rfl rfl Tryz.func78 (by kernel_rfl) rfl #[.slice Ao27 y366.length co27, .func (.func 79) #[] #[]] rfl (by (try simp only [List.map_toArray, List.map_cons, List.map_nil]); first | done | rfl | (simp only [List.length_drop, List.length_take]; rfl)) ?_; (with_reducible refine (api_Pair.calls (fun k_ => some k_ = (.slice Ao27 y366.length co27 : Value).ownBlock) (.slice Ao27 y366.length co27) y366 t369 w _ ?side1 ?side2 A18.out).mono ?_); (case side1 => repeat (first | (with_reducible first | exact HB.out | apply below_alloc | apply pw_below_drewN | apply below_drew1 | refine below_set ?_ GE357.out) | exact HB.out)); (case side2 => exact Kd.R_tight rfl HO368.out); rintro e w28 ⟨v370, rfl, ho0, hb, hkp⟩; refine ⟨_, rfl, ?_⟩; have n0_ := Aside0.mk (Kd.R_mono (ok' := fun k_ => True) (Kd.R_keptB ((Kd.R_apart' HO_3.out (Kd.R_typed HO368.out) (by decide))) hkp (fun k_ hk_ hs_ => (hk_.2) hs_)) (fun k_ hk_ => trivial)); have n1_ := Aside0.mk (blk_kept (by (with_reducible repeat (first | refine blk_drewN ?_ _ | refine blk_drew ?_ | refine blk_alloc ?_ _)); exact BK357.out) hkp (fun hs_ => (fun e_ => (Kd.R_ne HO368.out BK357.out (by decide)) e_) hs_)); have n2_ := Aside0.mk (Kd.R_mono (ok' := fun k_ => True) ho0 (fun k_ hk_ => trivial)); have n3_ := Aside0.mk (hb); clear HO_3; clear BK357; clear HB; clear HO368; have HO_3 := n0_; have BK357 := n1_; have HO371 := n2_; have HB := n3_; clear n0_ n1_ n2_ n3_; (try clear hb); (try clear hkp); (try clear ho0); obtain ⟨Ao29, co29, eo29⟩ := Kd.R_slice HO371.out; subst eo29) | ((with_reducible refine gate_callee (f := 77) rfl ?_); refine goesL_ (some 43) rfl rfl Tryz.func77 (by kernel_rfl) rfl #[.slice Ao29 t369.length co29] rfl (by (try simp only [List.map_toArray, List.map_cons, List.map_nil]); first | done | rfl | (simp only [List.length_drop, List.length_take]; rfl)) ?_; (with_reducible refine (urlform_Print.calls _ _ t369 t372 _ ?side1 ?side2 A19.out).mono ?_); (case side1 => repeat (first | exact (Kd.R_reads' HO371.out).2.2 | (with_reducible refine Kd.C_alloc ?_ _) | (with_reducible refine Kd.C_drewN ?_ _) | (with_reducible refine Kd.C_drew ?_))); (case side2 => exact (Kd.R_reads' HO371.out).2.1); rintro e w30 ⟨rfl, hb⟩; refine ⟨_, rfl, ?_⟩; have n0_ := Aside0.mk (Kd.R_below (by (with_reducible repeat (first | apply Kd.R_alloc | apply Kd.R_drewN | apply Kd.R_drew)); exact HO_3.out) hb); have n1_ := Aside0.mk (Kd.R_below (by (with_reducible repeat (first | apply Kd.R_alloc | apply Kd.R_drewN | apply Kd.R_drew)); exact HO371.out) hb); have n2_ := Aside0.mk (blk_below (g := gb357) (o := .cells #[.string a0_0, .string a0_1, .int .i64 a0_2, .bool a0_3, .string a0_4, .slice A0_5 l0_5.length c0_5] 40 (0, 0)) (by (with_reducible repeat (first | refine blk_drewN ?_ _ | refine blk_drew ?_ | refine blk_alloc ?_ _)); exact BK357.out) hb); have n3_ := Aside0.mk (below_step (by repeat (first | (with_reducible first | exact HB.out | apply below_alloc | apply pw_below_drewN | apply below_drew1 | refine below_set ?_ GE357.out) | exact HB.out)) hb); clear HO_3; clear HO371; clear BK357; clear HB; have HO_3 := n0_; have HO371 := n1_; have BK357 := n2_; have HB := n3_; clear n0_ n1_ n2_ n3_; (try clear hb); (try clear hb2); (try clear hk); (try clear hi)))
                go_ret
                exact ⟨by first | rfl | (simp [errW_none, errW_some] <;> rfl) | (simp [*, errW_none, errW_some] <;> rfl) | (simp; (generalize ByteArray.toList _ = z_); cases z_ <;> rfl), by repeat (first | (with_reducible first | exact HB.out | apply below_alloc | apply pw_below_drewN | apply below_drew1 | refine below_set ?_ GE357.out) | exact HB.out)⟩
              · rw [if_neg c20] at H
                exact absurd H (by simp)
end Go.Proofs.YtmimipgmhgalaaaGreatDoor.PAll
end
section
namespace Go.Proofs.YtmimipgmhgalaaaGreatDoor.PAll
open Go.RowKit Go.Proofs.YtmimipgmhgalaaaGreatDoorW.PrintWords Go.Proofs.YtmimipgmhgalaaaGreatDoorW.PrintLast Go.Proofs.YtmimipgmhgalaaaGreatDoorW.PrintMore
attribute [local go_sem] max2_int min2_int max_two min_two max_three min_three max_four min_four
set_option linter.unusedVariables false
set_option linter.unusedSimpArgs false
mutual
def wicketref11_said.j0 : Nat → List ByteArray → ByteArray → ByteArray → ByteArray → Int → Bool → ByteArray → List ByteArray → Option (ByteArray)
  | 0, _, _, _, _, _, _, _, _ => none
  | k + 1, x3, x4, x485000, x485001, x485002, x485003, x485004, x485005 => if 0 ≤ x485002 then (if x485002 < (x3.length : Int) then ((wicketref11_Joined.f k x485005).bind fun t492 => (wicketref11_said.l0 k ([] : List (S121)) 0 (([(⟨#[105, 100]⟩ : ByteArray), (⟨#[115, 101, 99, 114, 101, 116]⟩ : ByteArray), (⟨#[103, 114, 97, 110, 116, 115]⟩ : ByteArray), (⟨#[112, 105, 110, 103]⟩ : ByteArray), (⟨#[117, 114, 108]⟩ : ByteArray), (⟨#[115, 99, 111, 112, 101]⟩ : ByteArray)] : List ByteArray)) (([x485000, x485001, rdOf ByteArray.empty x3 x485002, x4, x485004, t492] : List ByteArray)))) else (none)) else (none)
def wicketref11_said.l0 : Nat → List (S121) → Int → List ByteArray → List ByteArray → Option (ByteArray)
  | 0, _, _, _, _ => none
  | k + 1, x7, x8, x12, x28 => if x8 < 6 then (if 0 ≤ x8 then (if x8 < (x28.length : Int) then (if (rdOf ByteArray.empty x28 x8).toList = ([] : List UInt8) then (wicketref11_said.l0 k x7 (wrap64 (x8 + 1)) x12 x28) else (if x8 < (x12.length : Int) then (if x7.length < 4398046511104 then (wicketref11_said.l0 k (x7 ++ [(⟨rdOf ByteArray.empty x12 x8, rdOf ByteArray.empty x28 x8⟩ : S121)]) (wrap64 (x8 + 1)) x12 x28) else (none)) else (none))) else (none)) else (none)) else ((wicketref03_Print.f k x7).bind fun t502 => (if t502.size + 1 ≤ 9223372036854775807 then (some (t502 ++ (⟨#[10]⟩ : ByteArray))) else (none)))
end
def wicketref11_said.f (k : Nat) (a0_0 : ByteArray) (a0_1 : ByteArray) (a0_2 : Int) (a0_3 : Bool) (a0_4 : ByteArray) (l0_5 : List ByteArray) : Option (ByteArray) := (some (([(⟨#[]⟩ : ByteArray), (⟨#[100, 101, 118, 105, 99, 101]⟩ : ByteArray), (⟨#[99, 105, 98, 97]⟩ : ByteArray), (⟨#[99, 105, 98, 97, 32, 100, 101, 118, 105, 99, 101]⟩ : ByteArray)] : List ByteArray) : List ByteArray)).bind fun y485 => (if a0_3 = true then (wicketref11_said.j0 k y485 (⟨#[121, 101, 115]⟩ : ByteArray) a0_0 a0_1 a0_2 a0_3 a0_4 l0_5) else (wicketref11_said.j0 k y485 (⟨#[]⟩ : ByteArray) a0_0 a0_1 a0_2 a0_3 a0_4 l0_5))
def wicketref11_said.T6 : Bool × List (List Nat × List Nat) := (true, [([], []), ([0], [0]), ([], []), ([2], [2]), ([], []), ([], []), ([5], [5]), ([4, 6], [4, 6]), ([7], [7]), ([], []), ([], []), ([10], [10]), ([], []), ([12], [12]), ([13], [13]), ([1, 3, 8, 9, 11, 14], [1, 3, 8, 9, 11, 14]), ([15, 14, 0, 1, 2, 3, 4, 5, 6, 7, 8, 9, 10, 11, 12, 13, 14, 15], [15])])
def wicketref11_said.B6 : List Nat := [0, 1, 0, 4, 0, 0, 32, 112, 240, 0, 0, 1024, 0, 4096, 12288, 32767, 65535]
theorem wicketref11_said.tab6 : rtab .any (opsOf Tryz.f49 6) = wicketref11_said.T6 := by kernel_rfl
theorem wicketref11_said.bits6 : waitsOk wicketref11_said.T6.2 wicketref11_said.B6 = true := by kernel_rfl
end Go.Proofs.YtmimipgmhgalaaaGreatDoor.PAll
end
section
namespace Go.Proofs.YtmimipgmhgalaaaGreatDoor.Pure
open Go.RowKit Go.Proofs.YtmimipgmhgalaaaGreatDoorW.PrintWords Go.Proofs.YtmimipgmhgalaaaGreatDoor.Plain Go.Proofs.YtmimipgmhgalaaaGreatDoor.Spec Go.Proofs.YtmimipgmhgalaaaGreatDoor.PAll
set_option linter.unusedSimpArgs false
set_option linter.unusedVariables false
abbrev wDevice : ByteArray := ⟨#[100, 101, 118, 105, 99, 101]⟩
abbrev wCiba : ByteArray := ⟨#[99, 105, 98, 97]⟩
abbrev wBoth : ByteArray := ⟨#[99, 105, 98, 97, 32, 100, 101, 118, 105, 99, 101]⟩
abbrev wYes : ByteArray := ⟨#[121, 101, 115]⟩
def grW (g : Int) : ByteArray := if g = 1 then wDevice else if g = 2 then wCiba else wBoth
def pgW (b : Bool) : ByteArray := if b = true then wYes else ⟨#[]⟩
def six (c : ClT) : List S68 := [⟨⟨#[105, 100]⟩, c.i⟩, ⟨⟨#[115, 101, 99, 114, 101, 116]⟩, c.s⟩, ⟨⟨#[103, 114, 97, 110, 116, 115]⟩, grW c.gr⟩, ⟨⟨#[112, 105, 110, 103]⟩, pgW c.pg⟩, ⟨⟨#[117, 114, 108]⟩, c.u⟩, ⟨⟨#[115, 99, 111, 112, 101]⟩, bs (joinedL c.sc)⟩]
def lineP (c : ClT) : List S68 := keepL (six c)
def lineB (c : ClT) : List UInt8 := printL (lineP c) ++ [10]
structure Fits (c : ClT) : Prop where
  i : c.i.size ≤ 64
  s : c.s.size ≤ 256
  u : c.u.size ≤ 256
  g : c.gr = 1 ∨ c.gr = 2 ∨ c.gr = 3
  j : (joinedL c.sc).length ≤ 256
  n : c.sc.length ≤ 32
theorem within_len {l : List UInt8} {a b c : Nat} (h : withinL l a b c = true) : l.length ≤ b := by
  unfold withinL at h
  simp only [Bool.and_eq_true, decide_eq_true_eq] at h
  exact h.2.2
theorem fits_of (c : ClT) (h : checkL c = true) : Fits c := by
  unfold checkL at h
  simp only [Bool.and_eq_true, decide_eq_true_eq] at h
  obtain ⟨⟨⟨⟨h1, h2⟩, h3⟩, h4⟩, h5⟩ := h
  have e1 := within_len h1
  have e2 := within_len h2
  rw [data_len] at e1 e2
  unfold scopesOk at h5
  simp only [Bool.and_eq_true, decide_eq_true_eq] at h5
  refine ⟨e1, e2, ?_, by omega, ?_, ?_⟩
  · unfold urlL at h4
    by_cases hp : c.pg = true
    · rw [if_pos hp] at h4
      simp only [Bool.and_eq_true] at h4
      have := within_len h4.1.2
      rw [data_len] at this
      exact this
    · rw [if_neg hp] at h4
      have := of_decide_eq_true h4
      have hz : c.u.data.toList.length = c.u.size := data_len _
      rw [this] at hz
      simp at hz
      omega
  · apply Classical.byContradiction
    intro hn
    have := h5.1
    unfold scopesL at this
    rw [if_pos (by omega)] at this
    cases this
  · rw [← h5.2, List.length_map]
    exact scopesL_len _
theorem keep_le (l : List S68) : sizeL (keepL l) ≤ sizeL l := by
  induction l with
  | nil => simp [keepL, sizeL]
  | cons p r ih =>
    unfold keepL sizeL at ih ⊢
    rw [List.filter_cons]
    split
    · simp only [List.map_cons, List.sum_cons]; omega
    · simp only [List.map_cons, List.sum_cons]; omega
theorem pg_size (b : Bool) : (pgW b).size ≤ 3 := by cases b <;> decide
theorem gr_size (g : Int) : (grW g).size ≤ 11 := by
  unfold grW
  split
  · decide
  · split <;> decide
theorem six_size (c : ClT) (hf : Fits c) : sizeL (six c) ≤ 1000 := by
  have h1 := hf.i; have h2 := hf.s; have h3 := hf.u; have h4 := hf.j
  have h5 := pg_size c.pg
  have h6 := gr_size c.gr
  have h7 : (bs (joinedL c.sc)).size = (joinedL c.sc).length := bs_size _
  unfold sizeL six
  simp only [List.map_cons, List.map_nil, List.sum_cons, List.sum_nil]
  rw [h7]
  rw [show (⟨#[105, 100]⟩ : ByteArray).size = 2 from rfl, show (⟨#[115, 101, 99, 114, 101, 116]⟩ : ByteArray).size = 6 from rfl, show (⟨#[103, 114, 97, 110, 116, 115]⟩ : ByteArray).size = 6 from rfl, show (⟨#[112, 105, 110, 103]⟩ : ByteArray).size = 4 from rfl, show (⟨#[117, 114, 108]⟩ : ByteArray).size = 3 from rfl, show (⟨#[115, 99, 111, 112, 101]⟩ : ByteArray).size = 5 from rfl]
  omega
theorem lineB_len (c : ClT) (hf : Fits c) : (lineB c).length ≤ 3001 := by
  have h1 := printL_len (lineP c)
  have h2 := keep_le (six c)
  have h3 := six_size c hf
  unfold lineB
  rw [List.length_append, List.length_singleton]
  unfold lineP at h1 ⊢
  omega
theorem line_ev (c : ClT) (hf : Fits c) : Ev (fun k => client_line.f k c.i c.s c.gr c.pg c.u c.sc) (bs (lineB c)) := by
  have hsz : 3 * sizeL (lineP c) ≤ 140737488355328 := by
    have h2 := keep_le (six c)
    have h3 := six_size c hf
    unfold lineP
    omega
  have hpr : urlform_Print.f (lineP c) = some (bs (printL (lineP c))) := by unfold urlform_Print.f; rw [if_pos hsz]; rfl
  have hlen := lineB_len c hf
  unfold lineB at hlen
  rw [List.length_append, List.length_singleton] at hlen
  have hj2 (g : List ByteArray) (hg : strings_Join.f g (⟨#[32]⟩ : ByteArray) = some (grW c.gr)) : Ev (fun k => client_line.j2 k g (pgW c.pg) c.i c.s c.gr c.pg c.u c.sc) (bs (lineB c)) := by
    refine Ev.step (f := fun _ => some (bs (lineB c))) (fun k => ?_) (Ev.now _)
    simp only [client_line.j2]
    rw [hg, Option.bind_some, show strings_Join.f c.sc (⟨#[32]⟩ : ByteArray) = some (bs (joinedL c.sc)) from by unfold strings_Join.f; rw [if_pos ⟨by have := hf.n; omega, by exact Nat.le_trans hf.j (by decide)⟩]; rfl, Option.bind_some]
    rw [show api_Pair.f [⟨⟨#[105, 100]⟩, c.i⟩, ⟨⟨#[115, 101, 99, 114, 101, 116]⟩, c.s⟩, ⟨⟨#[103, 114, 97, 110, 116, 115]⟩, grW c.gr⟩, ⟨⟨#[112, 105, 110, 103]⟩, pgW c.pg⟩, ⟨⟨#[117, 114, 108]⟩, c.u⟩, ⟨⟨#[115, 99, 111, 112, 101]⟩, bs (joinedL c.sc)⟩] = some (lineP c) from by unfold api_Pair.f; rw [if_pos (by simp)]; rfl, Option.bind_some, hpr, Option.bind_some, if_pos (by rw [bs_size]; omega)]
    unfold lineB
    rw [← bs_append]
    rfl
  have hj1 (g : List ByteArray) (hg : strings_Join.f g (⟨#[32]⟩ : ByteArray) = some (grW c.gr)) : Ev (fun k => client_line.j1 k g c.i c.s c.gr c.pg c.u c.sc) (bs (lineB c)) := by
    have h := hj2 g hg
    refine Ev.step (fun k => ?_) h
    simp only [client_line.j1]
    cases hp : c.pg with
    | true => rw [if_pos rfl]; rfl
    | false => rw [if_neg (by simp)]; rfl
  unfold client_line.f
  rcases hf.g with hg | hg | hg
  · refine Ev.pos (by rw [hg]; decide) (Ev.step (fun k => ?_) (hj1 [wDevice] (by rw [hg]; decide +kernel)))
    simp only [client_line.j0]
    rw [if_neg (by rw [hg]; decide), if_pos (by decide)]
    rfl
  · refine Ev.neg (by rw [hg]; decide) (Ev.pos (by decide) (Ev.step (fun k => ?_) (hj1 [wCiba] (by rw [hg]; decide +kernel))))
    simp only [client_line.j0]
    rw [if_pos (by rw [hg]; decide)]
    rfl
  · refine Ev.neg (by rw [hg]; decide) (Ev.pos (by decide) (Ev.step (fun k => ?_) (hj1 [wCiba, wDevice] (by rw [hg]; decide +kernel))))
    simp only [client_line.j0]
    rw [if_neg (by rw [hg]; decide), if_pos (by decide)]
    rfl
theorem refprint_ev (l : List S68) (hl : sizeL l ≤ 1048576) : Ev (fun k => wicketref03_Print.f k (l.map to61)) (bs (printL l)) := by
  have h := refprint_loop l hl l.length 0 (by omega)
  rw [List.take_zero] at h
  unfold wicketref03_Print.f
  exact h
theorem keep_snoc (l : List S68) (i : Nat) (h : i < l.length) : keepL (l.take (i + 1)) = keepL (l.take i) ++ (if l[i].f1.toList = [] then [] else [l[i]]) := by
  unfold keepL
  rw [List.take_succ_eq_append_getElem h, List.filter_append, List.filter_cons, List.filter_nil]
  congr 1
  by_cases e : l[i].f1.toList = []
  · rw [if_pos e, e]; rfl
  · rw [if_neg e, if_pos]
    simp [e]
theorem said_loop (c : ClT) (hf : Fits c) : ∀ (m i : Nat), i + m = 6 → Ev (fun k => wicketref11_said.l0 k ((keepL ((six c).take i)).map to61) (i : Int) ((six c).map (·.f0)) ((six c).map (·.f1))) (bs (lineB c)) := by
  have h6 : (six c).length = 6 := rfl
  have hn0 : ((six c).map (·.f0)).length = 6 := rfl
  have hn1 : ((six c).map (·.f1)).length = 6 := rfl
  intro m
  induction m with
  | zero =>
    intro i hi
    have h2 := keep_le (six c)
    have h3 := six_size c hf
    have hlen := lineB_len c hf
    unfold lineB at hlen
    rw [List.length_append, List.length_singleton] at hlen
    obtain rfl : i = 6 := by omega
    refine Ev.step (fun k => by simp only [wicketref11_said.l0]; rw [if_neg (by omega), List.take_of_length_le (by omega)]; rfl) (Ev.bind (refprint_ev (lineP c) (by unfold lineP; omega)) ?_)
    refine Ev.pos (by rw [bs_size]; omega) (Ev.eq (Ev.now _) ?_)
    unfold lineB
    rw [← bs_append]
    rfl
  | succ m ih =>
    intro i hi
    have hlt : i < (six c).length := by omega
    have hr0 : rdOf ByteArray.empty ((six c).map (·.f0)) (i : Int) = (six c)[i].f0 := by rw [rdOf_get _ _ i (by omega), List.getElem_map]
    have hr1 : rdOf ByteArray.empty ((six c).map (·.f1)) (i : Int) = (six c)[i].f1 := by rw [rdOf_get _ _ i (by omega), List.getElem_map]
    have hs := keep_snoc (six c) i hlt
    have hw : wrap64 ((i : Int) + 1) = ((i + 1 : Nat) : Int) := by rw [w64 (by omega) (by omega)]; rfl
    have hk : ((keepL ((six c).take i)).map to61).length ≤ 6 := by
      rw [List.length_map]
      unfold keepL
      have := List.length_filter_le (fun q : S68 => !(q.f1.toList == [])) ((six c).take i)
      have h2 := List.length_take_le i (six c)
      omega
    refine Ev.step (fun k => ?_) (ih (i + 1) (by omega))
    simp only [wicketref11_said.l0]
    rw [if_pos (by omega), if_pos (by omega), if_pos (by omega), hr1, hr0, hw, hs]
    by_cases e : (six c)[i].f1.toList = []
    · rw [if_pos e, if_pos e, List.append_nil]
    · rw [if_neg e, if_neg e, if_pos (by omega), if_pos (by omega), List.map_append]
      rfl
theorem said_ev (c : ClT) (hf : Fits c) : Ev (fun k => wicketref11_said.f k c.i c.s c.gr c.pg c.u c.sc) (bs (lineB c)) := by
  have hl := said_loop c hf 6 0 (by omega)
  have hj0 : Ev (fun k => wicketref11_said.j0 k [(⟨#[]⟩ : ByteArray), wDevice, wCiba, wBoth] (pgW c.pg) c.i c.s c.gr c.pg c.u c.sc) (bs (lineB c)) := by
    have hg : rdOf ByteArray.empty [(⟨#[]⟩ : ByteArray), wDevice, wCiba, wBoth] c.gr = grW c.gr := by
      rcases hf.g with hg | hg | hg <;> rw [hg] <;> rfl
    have hg0 : 0 ≤ c.gr ∧ c.gr < 4 := by rcases hf.g with hg | hg | hg <;> rw [hg] <;> decide
    refine Ev.step (f := fun k => (wicketref11_Joined.f k c.sc).bind fun t492 => wicketref11_said.l0 k ([] : List S121) 0 [(⟨#[105, 100]⟩ : ByteArray), (⟨#[115, 101, 99, 114, 101, 116]⟩ : ByteArray), (⟨#[103, 114, 97, 110, 116, 115]⟩ : ByteArray), (⟨#[112, 105, 110, 103]⟩ : ByteArray), (⟨#[117, 114, 108]⟩ : ByteArray), (⟨#[115, 99, 111, 112, 101]⟩ : ByteArray)] [c.i, c.s, grW c.gr, pgW c.pg, c.u, t492]) (fun k => ?_) ?_
    · simp only [wicketref11_said.j0]
      rw [if_pos hg0.1, if_pos (show c.gr < ([(⟨#[]⟩ : ByteArray), wDevice, wCiba, wBoth].length : Int) from hg0.2), hg]
    · refine Ev.bind (joined_ev c.sc (by have := hf.n; omega) (by have := hf.j; omega)) ?_
      exact hl
  unfold wicketref11_said.f
  simp only [Option.bind_some]
  cases hp : c.pg with
  | true => rw [hp] at hj0; exact Ev.pos rfl hj0
  | false => rw [hp] at hj0; exact Ev.neg (by simp) hj0
end Go.Proofs.YtmimipgmhgalaaaGreatDoor.Pure
end
section
namespace Go.Proofs.YtmimipgmhgalaaaGreatDoor.Spec
open Go.Proofs.YtmimipgmhgalaaaGreatDoor.PAll Go.Proofs.YtmimipgmhgalaaaGreatDoor.Pure
def toT (x : S40) : ClT := ⟨x.f0, x.f1, x.f2, x.f3, x.f4, x.f5⟩
def badC (l : List S40) : Bool := l.any fun x => !checkL (toT x)
def linesB (l : List S40) : List UInt8 := l.flatMap fun x => lineB (toT x)
def idsC (l : List S40) : List ByteArray := l.map (·.f0)
def printC (l : List S40) : ByteArray × Int :=
  if badC l = true then (⟨#[]⟩, 111) else if ¬ (idsC l).Nodup then (⟨#[]⟩, 8) else if l.length > 256 then (⟨#[]⟩, 32) else if (linesB l).length > 65536 then (⟨#[]⟩, 1) else (bs (linesB l), 0)
theorem small_ofB {c : ClT} (h : smallB c = true) : Small c := by
  unfold smallB at h
  obtain ⟨h1, h2, h3, h4, h5⟩ := of_decide_eq_true h
  exact ⟨h1, h2, h3, h4, h5⟩
theorem linesB_take (l : List S40) (k : Nat) (h : k < l.length) : linesB (l.take (k + 1)) = linesB (l.take k) ++ lineB (toT l[k]) := by
  unfold linesB
  rw [List.take_succ_eq_append_getElem h, List.flatMap_append]
  simp
theorem linesB_len (l : List S40) (h : ∀ x ∈ l, checkL (toT x) = true) : (linesB l).length ≤ 3001 * l.length := by
  induction l with
  | nil => simp [linesB]
  | cons x r ih =>
    have h1 := lineB_len (toT x) (fits_of _ (h x (by simp)))
    have h2 := ih fun y hy => h y (by simp [hy])
    unfold linesB at h2 ⊢
    simp only [List.flatMap_cons, List.length_append, List.length_cons]
    omega
end Go.Proofs.YtmimipgmhgalaaaGreatDoor.Spec
namespace Go.Proofs.YtmimipgmhgalaaaGreatDoor.PAll
open Go.RowKit Go.Proofs.YtmimipgmhgalaaaGreatDoorW.PrintWords Go.Proofs.YtmimipgmhgalaaaGreatDoor.Plain Go.Proofs.YtmimipgmhgalaaaGreatDoor.Spec Go.Proofs.YtmimipgmhgalaaaGreatDoor.Pure
set_option linter.unusedVariables false
set_option linter.unusedSimpArgs false
def client_Print.f (l0 : List S40) : Option (ByteArray × Int) := if (l0.all fun x => smallB (toT x)) = true then some (printC l0) else none
def putMap (W : World) (mb : Nat) (o : Obj) : World := { W with heap := W.heap.setIfInBounds mb o }
theorem putMap_at {W : World} {mb : Nat} {o o' : Obj} (h : W.heap[mb]? = some o) : (putMap W mb o').heap[mb]? = some o' := (MapKept.heap_set h).1
theorem putMap_far {W : World} {mb k : Nat} {o o' : Obj} (h : W.heap[mb]? = some o) (hk : k ≠ mb) : (putMap W mb o').heap[k]? = W.heap[k]? := (MapKept.heap_set h).2 k hk
theorem below_putMap {w W : World} {mb : Nat} {o' : Obj} (hb : Below w.heap.size w W) (hm : w.heap.size ≤ mb) : Below w.heap.size w (putMap W mb o') := by
  refine ⟨hb.os, hb.tape, hb.output, by have := hb.size; simpa [putMap] using this, fun k hk => ?_⟩
  refine Eq.trans ?_ (hb.block k hk)
  show (W.heap.setIfInBounds mb o')[k]? = _
  rw [Array.getElem?_setIfInBounds_ne (by omega)]
def entC (x : S40) (i : Nat) : MapEntry := ⟨.string x.f0, .int .i64 1, i⟩
def seenE : List S40 → Nat → List MapEntry
  | [], _ => []
  | x :: r, i => entC x i :: seenE r (i + 1)
theorem seenE_snoc (x : S40) : ∀ (l : List S40) (i : Nat), seenE (l ++ [x]) i = seenE l i ++ [entC x (i + l.length)]
  | [], i => rfl
  | y :: r, i => by
    simp only [List.cons_append, seenE, List.length_cons]
    rw [seenE_snoc x r (i + 1), show i + 1 + r.length = i + (r.length + 1) by omega]
theorem seenE_keys : ∀ (l : List S40) (i : Nat) (e : MapEntry), e ∈ seenE l i → ∃ x ∈ l, e.key = .string x.f0 ∧ e.val = .int .i64 1
  | [], i, e, h => by cases h
  | x :: r, i, e, h => by
    rcases List.mem_cons.1 h with rfl | h
    · exact ⟨x, by simp, rfl, rfl⟩
    · obtain ⟨y, hy, h2⟩ := seenE_keys r (i + 1) e h
      exact ⟨y, by simp [hy], h2⟩
theorem seenE_mem : ∀ (l : List S40) (i : Nat) (x : S40), x ∈ l → ∃ e ∈ seenE l i, e.key = .string x.f0
  | y :: r, i, x, h => by
    rcases List.mem_cons.1 h with rfl | h
    · exact ⟨_, List.mem_cons_self, rfl⟩
    · obtain ⟨e, he, h2⟩ := seenE_mem r (i + 1) x h
      exact ⟨e, List.mem_cons_of_mem _ he, h2⟩
theorem seen_find (l : List S40) (s : ByteArray) : (s ∉ idsC l ∧ Instr.findNow .string (.string s) (seenE l 0) 0 = some none) ∨ (s ∈ idsC l ∧ ∃ j e, Instr.findNow .string (.string s) (seenE l 0) 0 = some (some (j, .int .i64 1)) ∧ (seenE l 0)[j]? = some e ∧ e.key = .string s) := by
  have hk : ∀ x ∈ seenE l 0, MapKept.IsKey .string x.key := fun e he => by
    obtain ⟨x, _, h, _⟩ := seenE_keys l 0 e he
    rw [h]; trivial
  rcases MapKept.findNow_spec (d := .string) (k := .string s) trivial (seenE l 0) 0 hk with ⟨h1, h2⟩ | ⟨j, e, h1, h2, h3⟩
  · left
    refine ⟨fun hs => ?_, h1⟩
    obtain ⟨x, hx, rfl⟩ := List.mem_map.1 hs
    obtain ⟨e, he, h4⟩ := seenE_mem l 0 x hx
    exact h2 e he h4
  · right
    obtain ⟨x, hx, h4, h5⟩ := seenE_keys l 0 e (List.mem_of_getElem? h2)
    rw [h3] at h4
    refine ⟨?_, j, e, by rw [h1, h5, Nat.zero_add], h2, h3⟩
    injection h4 with h4
    exact List.mem_map.2 ⟨x, hx, h4.symm⟩
theorem zInt (w : World) : (zeroValue 3).run Tryz.prog w = .ok (.int .i64 0) w := by kernel_rfl
theorem look_map {W : World} {mb n : Nat} {es : Array MapEntry} (hb : W.heap[mb]? = some (.map es n)) (s : ByteArray) (i : Nat) (v : Value) (h : Instr.findNow .string (.string s) es.toList 0 = some (some (i, v))) :
    (Instr.lookup 85 (.map (some mb)) (.string s) false).run Tryz.prog W = .ok v W := by
  have hk : ∀ e, (Instr.checkKey e 10000 9 (.string s)).run Tryz.prog W = .ok () W := fun e => MapKept.run_checkKey Tryz.underlying9 (show MapKept.IsKey .string (.string s) from trivial) e 9999
  simp [Instr.lookup, run_underlying Tryz.underlying85, MapKept.run_getObj_map hb, hk, MapKept.run_findKey Tryz.underlying9 h, Result.andThen]
theorem look_zero {W : World} {mb n : Nat} {es : Array MapEntry} (hb : W.heap[mb]? = some (.map es n)) (s : ByteArray) (h : Instr.findNow .string (.string s) es.toList 0 = some none) :
    (Instr.lookup 85 (.map (some mb)) (.string s) false).run Tryz.prog W = .ok (.int .i64 0) W := by
  have hk : ∀ e, (Instr.checkKey e 10000 9 (.string s)).run Tryz.prog W = .ok () W := fun e => MapKept.run_checkKey Tryz.underlying9 (show MapKept.IsKey .string (.string s) from trivial) e 9999
  simp [Instr.lookup, run_underlying Tryz.underlying85, MapKept.run_getObj_map hb, hk, MapKept.run_findKey Tryz.underlying9 h, Result.andThen, zInt]
theorem upd_new {W : World} {mb n : Nat} {es : Array MapEntry} (hb : W.heap[mb]? = some (.map es n)) (s : ByteArray) (v : Value) (h : Instr.findNow .string (.string s) es.toList 0 = some none) :
    (Instr.mapUpdate 85 (.map (some mb)) (.string s) v).run Tryz.prog W = .ok () (putMap W mb (.map (es.push ⟨.string s, v, n⟩) (n + 1))) := by
  have hk : ∀ e, (Instr.checkKey e 10000 9 (.string s)).run Tryz.prog W = .ok () W := fun e => MapKept.run_checkKey Tryz.underlying9 (show MapKept.IsKey .string (.string s) from trivial) e 9999
  simp [Instr.mapUpdate, run_underlying Tryz.underlying85, MapKept.run_getObj_map hb, hk, MapKept.run_findKey Tryz.underlying9 h, MapKept.run_setObj_map _ hb, Result.andThen, putMap]
theorem upd_old {W : World} {mb n : Nat} {es : Array MapEntry} (hb : W.heap[mb]? = some (.map es n)) (s : ByteArray) (v v0 : Value) (i : Nat) (e : MapEntry) (he : es[i]? = some e) (hes : e.key = .string s) (h : Instr.findNow .string (.string s) es.toList 0 = some (some (i, v0))) :
    (Instr.mapUpdate 85 (.map (some mb)) (.string s) v).run Tryz.prog W = .ok () (putMap W mb (.map (es.modify i fun e => { e with key := .string s, val := v }) n)) := by
  have hk : ∀ e, (Instr.checkKey e 10000 9 (.string s)).run Tryz.prog W = .ok () W := fun e => MapKept.run_checkKey Tryz.underlying9 (show MapKept.IsKey .string (.string s) from trivial) e 9999
  have hst : ∀ W, (Instr.keyThatStays (.string s) (.string s)).run Tryz.prog W = .ok (.string s) W := fun W => MapKept.run_keyThatStays (d := .string) (k := .string s) trivial
  simp [Instr.mapUpdate, run_underlying Tryz.underlying85, MapKept.run_getObj_map hb, hk, MapKept.run_findKey Tryz.underlying9 h, he, hes, hst, MapKept.run_setObj_map _ hb, Result.andThen, putMap]
theorem find_ge (s : ByteArray) : ∀ (l : List MapEntry) (i a : Nat) (v : Value), Instr.findNow .string (.string s) l i = some (some (a, v)) → i ≤ a
  | [], i, a, v, h => by cases h
  | e :: es, i, a, v, h => by
    unfold Instr.findNow at h
    split at h
    · simp only [Option.some.injEq, Prod.mk.injEq] at h; omega
    · have := find_ge s es (i + 1) a v h; omega
    · cases h
theorem find_modify (s : ByteArray) (v' : Value) : ∀ (l : List MapEntry) (i j : Nat) (v : Value), Instr.findNow .string (.string s) l i = some (some (i + j, v)) →
    Instr.findNow .string (.string s) (l.modify j fun e => { e with key := .string s, val := v' }) i = some (some (i + j, v'))
  | [], i, j, v, h => by cases h
  | e :: es, i, j, v, h => by
    have hself : Instr.sameNow .string (.string s) (.string s) = some true := by
      obtain ⟨r, hr, hiff⟩ := MapKept.sameNow_of_keys (d := .string) (a := .string s) (b := .string s) trivial trivial
      rw [hr, hiff.2 rfl]
    unfold Instr.findNow at h
    split at h
    · simp only [Option.some.injEq, Prod.mk.injEq] at h
      obtain rfl : j = 0 := by omega
      simp [List.modify, Instr.findNow, hself]
    · rename_i hq
      have hge := find_ge s es (i + 1) _ v h
      obtain ⟨j', rfl⟩ : ∃ j', j = j' + 1 := ⟨j - 1, by omega⟩
      have ih := find_modify s v' es (i + 1) j' v (by rw [h]; congr 3; omega)
      rw [List.modify_succ_cons]
      unfold Instr.findNow
      rw [hq]
      simp only
      rw [ih]
      congr 3
      omega
    · cases h
set_option maxRecDepth 100000 in
set_option maxHeartbeats 4000000 in
theorem client_Print.calls (A0 : Option Addr) (c0 : Nat) (l0 : List S40) (r1 : ByteArray) (r2 : Int) (w : World) (hr0 : Kd.C k40 w A0 l0.length l0) (hc0 : l0.length ≤ c0) (h : client_Print.f l0 = some (r1, r2)) :
    Calls Tryz.prog 16 #[.slice A0 l0.length c0] w fun e w' => e = .returned (.tuple #[.string r1, .int .i64 r2]) ∧ Below w.heap.size w w' := by
  unfold client_Print.f at h
  split at h
  · rename_i hsm
    have hP : printC l0 = (r1, r2) := Option.some.inj h
    obtain ⟨N, hN⟩ : ∃ N, l0.length = N := ⟨_, rfl⟩
    have hm := hr0.2.1
    rw [hN] at hr0 hm ⊢
    have KS := Lib.hid (List.all_eq_true.1 hsm)
    have KP := Lib.hid hP
    have KN := Lib.hid hN
    have HR := Lib.hid hr0
    clear h hP hsm hN hr0 hc0
    go_enter Tryz.func16, Tryz.ntmps16
    go_wp2_with (fail)
    go_loopw [14] (fun v14 wr => ∃ k : Nat, k ≤ N ∧ v14 = .int .i64 (k : Int) ∧ Hid (∀ x ∈ l0.take k, checkL (toT x) = true) ∧ Below w.heap.size w wr) (fun v14 _ => N - (intOf v14).toNat)
    case atStart => exact ⟨0, Nat.zero_le _, rfl, Lib.hid (by simp), Below.refl _ _⟩
    case round =>
      obtain ⟨k, hk, rfl, hC, hB⟩ := hrel
      by_cases hlt : k < N
      · have hkl : k < l0.length := by rw [KN.out]; exact hlt
        obtain ⟨ad, A5, c5, hA, h0, h1, h2, h3, h4, h5, hl5, hi5⟩ := at_T40 (Kd.C_below HR.out hB) (k : Int) (by omega) (by omega)
        subst hA
        have hp : rd_T40 l0 (k : Int) = l0[k] := by simp [rd_T40, hkl]
        rw [hp] at h0 h1 h2 h3 h4 h5 hl5 hi5
        simp only [Int.toNat_natCast] at h0 h1 h2 h3 h4 h5
        have htk := List.take_succ_eq_append_getElem hkl
        have hmem := List.getElem_mem hkl
        clear hp
        generalize hpk : l0[k] = p at *
        have HTK := Lib.hid htk
        have HM := Lib.hid hmem
        obtain ⟨kc, hkc⟩ := (check_ev (toT p) (small_ofB (KS.out p hmem))).rounds
        have HCk := Lib.hid (fun (V : World) (h : Kd.C Kd.string V A5 p.f5.length p.f5) => client_Check.calls kc p.f0 p.f1 p.f2 p.f3 p.f4 A5 c5 p.f5 (numC (checkL (toT p))) V h hl5 hkc)
        have HI := Lib.hid hi5
        have HBr := Lib.hid hB
        clear htk hmem hkc hi5 hB hpk
        go_wp2_with (fail)
        refine (HCk.out _ (Kd.C_alloc HI.out _)).mono ?_
        rintro e w1 ⟨rfl, hb1⟩
        have HB1 := Lib.hid (below_step (below_alloc HBr.out _) hb1)
        clear hb1
        cases hch : checkL (toT p) with
        | true =>
          rw [show numC true = 0 from rfl]
          go_wp2_with (fail)
          go_roundw
          case rel => exact ⟨k + 1, by omega, by go_num, Lib.hid (by rw [HTK.out]; intro x hx; rcases List.mem_append.1 hx with hx | hx; exact hC.out x hx; rw [List.mem_singleton.1 hx]; exact hch), HB1.out⟩
          case measure => simp [intOf]; omega
        | false =>
          rw [show numC false = 111 from rfl]
          go_wp2_with (fail)
          have hz : printC l0 = (⟨#[]⟩, 111) := if_pos (List.any_eq_true.2 ⟨p, HM.out, by rw [hch]; rfl⟩)
          have hq := KP.out
          rw [hz] at hq
          obtain ⟨rfl, rfl⟩ := Prod.mk.inj hq
          go_ret2
          exact ⟨rfl, HB1.out⟩
      · have hkn : k = N := by omega
        subst hkn
        have hall : ∀ x ∈ l0, checkL (toT x) = true := by
          have := hC.out
          rwa [List.take_of_length_le (by rw [KN.out]; exact Nat.le_refl _)] at this
        have hnb : ¬ badC l0 = true := by
          intro h
          obtain ⟨x, hx, h2⟩ := List.any_eq_true.1 h
          rw [hall x hx] at h2
          cases h2
        have hPP : printC l0 = if ¬ (idsC l0).Nodup then (⟨#[]⟩, 8) else if l0.length > 256 then (⟨#[]⟩, 32) else if (linesB l0).length > 65536 then (⟨#[]⟩, 1) else (bs (linesB l0), 0) := if_neg hnb
        have KA := Lib.hid hall
        have KPP := Lib.hid hPP
        have HBr := Lib.hid hB
        have hge : decide (k < k) = false := decide_eq_false hlt
        clear hC hall hnb hPP hB
        have hmk : (Instr.makeMap 85 none).run Tryz.prog wr = .ok (.map (some wr.heap.size)) (wr.alloc (.map #[] 0)) := run_makeMap ..
        go_wp2_with (fail)
        obtain ⟨mb, hmb⟩ : ∃ mb, mb = wr.heap.size := ⟨_, rfl⟩
        have hM0 : (wr.alloc (.map #[] 0)).heap[mb]? = some (.map (seenE (l0.take 0) 0).toArray 0) := by rw [hmb]; exact blk_new wr _
        have hB0 := below_alloc HBr.out (.map #[] 0)
        have HMB := Lib.hid (show w.heap.size ≤ mb by rw [hmb]; exact HBr.out.size)
        rw [← hmb]
        clear hmb hmk hge HBr
        go_loopw [25] (fun v25 ws => ∃ j : Nat, j ≤ k ∧ v25 = .int .i64 (j : Int) ∧ Hid ((idsC (l0.take j)).Nodup) ∧ ws.heap[mb]? = some (.map (seenE (l0.take j) 0).toArray j) ∧ Below w.heap.size w ws) (fun v25 _ => k - (intOf v25).toNat)
        case atStart => exact ⟨0, Nat.zero_le _, rfl, Lib.hid (by simp [idsC]), hM0, hB0⟩
        case round =>
          clear hM0 hB0
          obtain ⟨j, hj, rfl, hD, hMj, hB⟩ := hrel
          by_cases hjk : j < k
          · have hkl : j < l0.length := by rw [KN.out]; exact hjk
            obtain ⟨ad, A5, c5, hA, h0, h1, h2, h3, h4, h5, hl5, hi5⟩ := at_T40 (Kd.C_below HR.out hB) (j : Int) (by omega) (by omega)
            subst hA
            have hp : rd_T40 l0 (j : Int) = l0[j] := by simp [rd_T40, hkl]
            rw [hp] at h0 h1 h2 h3 h4 h5
            simp only [Int.toNat_natCast] at h0 h1 h2 h3 h4 h5
            have htk := List.take_succ_eq_append_getElem hkl
            have htd : l0 = l0.take j ++ l0[j] :: l0.drop (j + 1) := by rw [← List.drop_eq_getElem_cons hkl, List.take_append_drop]
            have hlen : (l0.take j).length = j := by rw [List.length_take]; omega
            clear hp hl5 hi5
            generalize hpk : l0[j] = p at *
            have HTK := Lib.hid htk
            have HTD := Lib.hid htd
            have HBr := Lib.hid hB
            have HLT := Lib.hid (blk_lt hMj)
            have hM1 := blk_alloc hMj (.cells #[.string p.f0, .string p.f1, .int .i64 p.f2, .bool p.f3, .string p.f4, .slice A5 p.f5.length c5] 40)
            have hb8 := blk_new wr (.cells #[.string p.f0, .string p.f1, .int .i64 p.f2, .bool p.f3, .string p.f4, .slice A5 p.f5.length c5] 40)
            have hne8 : wr.heap.size ≠ mb := by have := HLT.out; omega
            have HB1 := Lib.hid (below_alloc HBr.out (.cells #[.string p.f0, .string p.f1, .int .i64 p.f2, .bool p.f3, .string p.f4, .slice A5 p.f5.length c5] 40))
            clear htk htd hB hpk
            rcases seen_find (l0.take j) p.f0 with ⟨hno, hf⟩ | ⟨hin, i, e, hf, he, hes⟩
            · have hl1 := look_zero hM1 p.f0 (by simpa using hf)
              have hu1 := upd_new hM1 p.f0 (.int .i64 1) (by simpa using hf)
              have hO : Obj.map ((seenE (l0.take j) 0).toArray.push ⟨.string p.f0, .int .i64 1, j⟩) (j + 1) = .map (seenE (l0.take (j + 1)) 0).toArray (j + 1) := by
                rw [HTK.out, seenE_snoc, hlen, Nat.zero_add, List.push_toArray]
                rfl
              rw [hO] at hu1
              have hin2 : p.f0 ∈ idsC (l0.take (j + 1)) := by rw [HTK.out]; simp [idsC]
              rcases seen_find (l0.take (j + 1)) p.f0 with ⟨hno2, _⟩ | ⟨_, i2, _, hf2, _, _⟩
              · exact absurd hin2 hno2
              · have hMq := putMap_at (o' := .map (seenE (l0.take (j + 1)) 0).toArray (j + 1)) hM1
                have hl2 := look_map hMq p.f0 i2 (.int .i64 1) (by simpa using hf2)
                have hbq := (putMap_far (o' := .map (seenE (l0.take (j + 1)) 0).toArray (j + 1)) hM1 hne8).trans hb8
                have HD2 := Lib.hid (show (idsC (l0.take (j + 1))).Nodup by
                  rw [HTK.out]
                  unfold idsC at hno ⊢
                  rw [List.map_append, List.nodup_append]
                  refine ⟨hD.out, by simp, fun a ha b hb e => hno ?_⟩
                  rw [List.map_cons, List.map_nil, List.mem_singleton] at hb
                  rw [← hb, ← e]; exact ha)
                have HMq := Lib.hid hMq
                have HBq := Lib.hid (below_putMap (o' := .map (seenE (l0.take (j + 1)) 0).toArray (j + 1)) HB1.out HMB.out)
                clear hf hf2 hno hin2 hO hD hMj hM1 hMq hlen
                generalize hO2 : Obj.map (seenE (l0.take (j + 1)) 0).toArray (j + 1) = O at *
                have HO := Lib.hid hO2
                clear hO2
                have q0 := (blk_cell hbq 0).trans rfl
                clear hbq hb8
                go_wp2_with (fail)
                go_roundw
                case rel => exact ⟨j + 1, by omega, by go_num, HD2, by rw [HO.out]; exact HMq.out, HBq.out⟩
                case measure => simp [intOf]; omega
            · have hl1 := look_map hM1 p.f0 i (.int .i64 1) (by simpa using hf)
              have hu1 := upd_old hM1 p.f0 (.int .i64 2) (.int .i64 1) i e (by simpa using he) hes (by simpa using hf)
              have hf3 := find_modify p.f0 (.int .i64 2) (seenE (l0.take j) 0) 0 i (.int .i64 1) (by rw [Nat.zero_add]; exact hf)
              rw [Nat.zero_add] at hf3
              have hMq := putMap_at (o' := .map ((seenE (l0.take j) 0).toArray.modify i fun e => { e with key := .string p.f0, val := .int .i64 2 }) j) hM1
              have hl2 := look_map hMq p.f0 i (.int .i64 2) (by rw [Array.toList_modify]; simpa using hf3)
              have hbq := (putMap_far (o' := .map ((seenE (l0.take j) 0).toArray.modify i fun e => { e with key := .string p.f0, val := .int .i64 2 }) j) hM1 hne8).trans hb8
              have HBq := Lib.hid (below_putMap (o' := .map ((seenE (l0.take j) 0).toArray.modify i fun e => { e with key := .string p.f0, val := .int .i64 2 }) j) HB1.out HMB.out)
              have hz : printC l0 = (⟨#[]⟩, 8) := by
                rw [KPP.out, if_pos]
                intro hnd
                rw [HTD.out] at hnd
                unfold idsC at hnd hin
                rw [List.map_append, List.nodup_append] at hnd
                exact hnd.2.2 _ hin p.f0 (by simp) rfl
              have hq := KP.out
              rw [hz] at hq
              obtain ⟨rfl, rfl⟩ := Prod.mk.inj hq
              clear hz hq hf hf3 hin he hes hD hMj hM1 hMq hlen
              generalize Obj.map ((seenE (l0.take j) 0).toArray.modify i fun e => { e with key := .string p.f0, val := .int .i64 2 }) j = O at *
              have q0 := (blk_cell hbq 0).trans rfl
              clear hbq hb8
              go_wp2_with (fail)
              go_ret2
              exact ⟨rfl, HBq.out⟩
          · have hjn : j = k := by omega
            subst hjn
            have hnd : (idsC l0).Nodup := by
              have := hD.out
              rwa [List.take_of_length_le (by rw [KN.out]; exact Nat.le_refl _)] at this
            have hPP2 : printC l0 = if j > 256 then (⟨#[]⟩, 32) else if (linesB l0).length > 65536 then (⟨#[]⟩, 1) else (bs (linesB l0), 0) := by
              rw [KPP.out, if_neg (by simpa using hnd), KN.out]
            have KP2 := Lib.hid hPP2
            have HBr := Lib.hid hB
            clear hD hMj hB hnd hPP2
            by_cases hbig : 256 < j
            · go_wp2_with (fail)
              have hq := KP.out
              rw [KP2.out, if_pos hbig] at hq
              obtain ⟨rfl, rfl⟩ := Prod.mk.inj hq
              go_ret2
              exact ⟨rfl, HBr.out⟩
            · go_wp2_with (fail)
              obtain ⟨B, hBs⟩ : ∃ B, B = wr.heap.size := ⟨_, rfl⟩
              have hI0 := Lib.fresh_isBuilder 88 5 wr
              have hB0 := below_alloc HBr.out (.cells #[.pointer none, .slice none 0 0] 88)
              have HBB := Lib.hid (show w.heap.size ≤ B by rw [hBs]; exact HBr.out.size)
              rw [← hBs] at hI0 ⊢
              clear hBs HBr
              go_loopw [45] (fun v45 ws => ∃ i : Nat, i ≤ j ∧ v45 = .int .i64 (i : Int) ∧ Lib.IsBuilder 88 5 B B (Lib.byteCells (linesB (l0.take i))) ws ∧ Below w.heap.size w ws) (fun v45 _ => j - (intOf v45).toNat)
              case atStart => exact ⟨0, Nat.zero_le _, rfl, hI0, hB0⟩
              case round =>
                clear hI0 hB0
                obtain ⟨i, hi, rfl, hI, hB⟩ := hrel
                have hIlt : B < wr.heap.size := by rcases hI with h | h <;> exact h.lt
                have hlen : (Lib.byteCells (linesB (l0.take i))).length ≤ 3001 * 256 := by
                  rw [Lib.byteCells_length]
                  have h1 := linesB_len (l0.take i) fun x hx => KA.out x (List.mem_of_mem_take hx)
                  rw [List.length_take] at h1
                  have : min i l0.length ≤ 256 := by omega
                  omega
                by_cases hij : i < j
                · have hkl : i < l0.length := by rw [KN.out]; exact hij
                  obtain ⟨ad, A5, c5, hA, h0, h1, h2, h3, h4, h5, hl5, hi5⟩ := at_T40 (Kd.C_below HR.out hB) (i : Int) (by omega) (by omega)
                  subst hA
                  have hp : rd_T40 l0 (i : Int) = l0[i] := by simp [rd_T40, hkl]
                  rw [hp] at h0 h1 h2 h3 h4 h5 hl5 hi5
                  simp only [Int.toNat_natCast] at h0 h1 h2 h3 h4 h5
                  have htk := linesB_take l0 i hkl
                  have hmem := List.getElem_mem hkl
                  clear hp
                  generalize hpk : l0[i] = p at *
                  have HTK := Lib.hid htk
                  have hfit := fits_of _ (KA.out p hmem)
                  obtain ⟨kc, hkc⟩ := (line_ev (toT p) hfit).rounds
                  have HCk := Lib.hid (fun (V : World) (h : Kd.C Kd.string V A5 p.f5.length p.f5) => client_line.calls kc p.f0 p.f1 p.f2 p.f3 p.f4 A5 c5 p.f5 (bs (lineB (toT p))) V h hl5 hkc)
                  have hll := lineB_len (toT p) hfit
                  have HLN := Lib.hid (show (bs (lineB (toT p))).size = (lineB (toT p)).length by simp [bs, ByteArray.size])
                  have HSC := Lib.hid (show Lib.strCells (bs (lineB (toT p))) = Lib.byteCells (lineB (toT p)) by rw [strCells_bytes]; simp [bs])
                  generalize hLB : bs (lineB (toT p)) = LB at *
                  have HLL := Lib.hid hll
                  have HI5 := Lib.hid hi5
                  have HBr := Lib.hid hB
                  have HIb := Lib.hid (isBuilder_below hI ((Below.refl _ wr).alloc (Nat.le_refl _) (.cells #[.string p.f0, .string p.f1, .int .i64 p.f2, .bool p.f3, .string p.f4, .slice A5 p.f5.length c5] 40)))
                  clear htk hmem hkc hi5 hB hpk hI hll hLB
                  go_wp2_with (fail)
                  refine (HCk.out _ (Kd.C_alloc HI5.out _)).mono ?_
                  rintro e w1 ⟨rfl, hb1⟩
                  have HIb1 := Lib.hid (isBuilder_below HIb.out hb1)
                  have HB1 := Lib.hid (below_step (below_alloc HBr.out _) hb1)
                  have hz1 : B ≤ w1.heap.size := by
                    have := hb1.size
                    simp only [World.alloc, Array.size_push] at this
                    omega
                  clear hb1
                  go_wp2_with (fail)
                  refine (Bld.writeString B B _ LB w1 HIb1.out (by rw [HLN.out]; have := HLL.out; omega) hz1).mono ?_
                  rintro e w2 ⟨rfl, hI2, hb2, _⟩
                  go_wp2_with (fail)
                  go_roundw
                  case rel => exact ⟨i + 1, by omega, by go_num, by rw [HTK.out, Lib.byteCells_append, ← HSC.out]; exact hI2, HB1.out.trans (hb2.mono HBB.out)⟩
                  case measure => simp [intOf]; omega
                · have hij2 : i = j := by omega
                  subst hij2
                  have hbs : linesB (l0.take i) = linesB l0 := by rw [List.take_of_length_le (by rw [KN.out]; exact Nat.le_refl _)]
                  rw [hbs] at hI hlen
                  have HIr := Lib.hid hI
                  have HBr := Lib.hid hB
                  have HLen := Lib.hid (show (Lib.byteCells (linesB l0)).length = (linesB l0).length from Lib.byteCells_length _)
                  have hlt1 : (Lib.byteCells (linesB l0)).length ≤ 3001 * 256 := hlen
                  clear hI hB hbs hlen
                  go_wp2_with (fail)
                  refine (Tryz.Builder_Len B B _ _ HIr.out).mono ?_
                  rintro e w1 ⟨rfl, rfl⟩
                  by_cases hl : (Lib.byteCells (linesB l0)).length > 65536
                  · go_wp2_with (fail)
                    have hq := KP.out
                    rw [KP2.out, if_neg hbig, if_pos (by rw [← HLen.out]; exact hl)] at hq
                    obtain ⟨rfl, rfl⟩ := Prod.mk.inj hq
                    go_ret2
                    exact ⟨rfl, HBr.out⟩
                  · go_wp2_with (fail)
                    refine (Tryz.Builder_String_any B B _ _ HIr.out (by omega)).mono ?_
                    rintro e w1 ⟨rfl, hb1⟩
                    have HB2 := Lib.hid (HBr.out.trans (hb1.mono HBB.out))
                    clear hb1
                    have hq := KP.out
                    rw [KP2.out, if_neg hbig, if_neg (by rw [← HLen.out]; exact hl)] at hq
                    obtain ⟨rfl, rfl⟩ := Prod.mk.inj hq
                    go_wp2_with (fail)
                    go_ret2
                    exact ⟨rfl, HB2.out⟩
  · cases h
end Go.Proofs.YtmimipgmhgalaaaGreatDoor.PAll
end
section
namespace Go.Proofs.YtmimipgmhgalaaaGreatDoor.PAll
open Go.RowKit Go.Proofs.YtmimipgmhgalaaaGreatDoorW.PrintWords Go.Proofs.YtmimipgmhgalaaaGreatDoorW.PrintLast Go.Proofs.YtmimipgmhgalaaaGreatDoorW.PrintMore
attribute [local go_sem] max2_int min2_int max_two min_two max_three min_three max_four min_four
set_option linter.unusedVariables false
set_option linter.unusedSimpArgs false
mutual
def wicketref11_Print.l0 : Nat → List (S43) → Int → Option (ByteArray × Int)
  | 0, _, _ => none
  | k + 1, x0, x4 => if x4 < (x0.length : Int) then (if 0 ≤ x4 then ((wicketref11_Check.f k ((rd_T43 x0 x4).f0) ((rd_T43 x0 x4).f1) ((rd_T43 x0 x4).f2) ((rd_T43 x0 x4).f3) ((rd_T43 x0 x4).f4) ((rd_T43 x0 x4).f5)).bind fun t504 => (if t504 = 0 then (wicketref11_Print.l0 k x0 (wrap64 (x4 + 1))) else (some ((⟨#[]⟩ : ByteArray), 111)))) else (none)) else (wicketref11_Print.l1 k x0 0)
def wicketref11_Print.l1 : Nat → List (S43) → Int → Option (ByteArray × Int)
  | 0, _, _ => none
  | k + 1, x0, x5 => if x5 < (x0.length : Int) then (if 0 ≤ x5 then (if x5 ≤ (x0.length : Int) then ((wicketref11_Find.f k (x0.take (x5 : Int).toNat) ((rd_T43 x0 x5).f0)).bind fun bt510 => (if bt510.2.2.2.2.2.2 = true then (some ((⟨#[]⟩ : ByteArray), 8)) else (wicketref11_Print.l1 k x0 (wrap64 (x5 + 1))))) else (none)) else (none)) else (if (x0.length : Int) > 256 then (some ((⟨#[]⟩ : ByteArray), 32)) else (wicketref11_Print.l2 k x0 (⟨#[]⟩ : ByteArray) 0))
def wicketref11_Print.l2 : Nat → List (S43) → ByteArray → Int → Option (ByteArray × Int)
  | 0, _, _, _ => none
  | k + 1, x0, x8, x9 => if x9 < (x0.length : Int) then (if 0 ≤ x9 then ((wicketref11_said.f k ((rd_T43 x0 x9).f0) ((rd_T43 x0 x9).f1) ((rd_T43 x0 x9).f2) ((rd_T43 x0 x9).f3) ((rd_T43 x0 x9).f4) ((rd_T43 x0 x9).f5)).bind fun t521 => (if x8.size + t521.size ≤ 9223372036854775807 then (wicketref11_Print.l2 k x0 (x8 ++ t521) (wrap64 (x9 + 1))) else (none))) else (none)) else (if (x8.size : Int) > 65536 then (some ((⟨#[]⟩ : ByteArray), 1)) else (some (x8, 0)))
end
def wicketref11_Print.T9 : Bool × List (List Nat × List Nat) := (true, [([], []), ([], []), ([0, 1], [0, 1]), ([], []), ([], []), ([3, 4], [3, 4]), ([5], [5]), ([6], [6]), ([2, 7], [2, 7]), ([8], [8]), ([9], [9]), ([9], [9]), ([], []), ([12, 10, 8, 0, 1, 2, 3, 4, 5, 6, 7, 8, 9, 10, 12], [10, 12]), ([11, 13, 0, 1, 2, 3, 4, 5, 6, 7, 8, 9, 10, 11, 12, 13], [11])])
def wicketref11_Print.B9 : List Nat := [0, 0, 3, 0, 0, 24, 56, 120, 255, 511, 1023, 1023, 0, 6143, 16383]
theorem wicketref11_Print.tab9 : rtab .any (opsOf Tryz.f17 9) = wicketref11_Print.T9 := by kernel_rfl
theorem wicketref11_Print.bits9 : waitsOk wicketref11_Print.T9.2 wicketref11_Print.B9 = true := by kernel_rfl
end Go.Proofs.YtmimipgmhgalaaaGreatDoor.PAll
end
section
namespace Go.Proofs.YtmimipgmhgalaaaGreatDoor.Pure
open Go.RowKit Go.Proofs.YtmimipgmhgalaaaGreatDoorW.PrintWords Go.Proofs.YtmimipgmhgalaaaGreatDoor.Plain Go.Proofs.YtmimipgmhgalaaaGreatDoor.Spec Go.Proofs.YtmimipgmhgalaaaGreatDoor.PAll
set_option linter.unusedSimpArgs false
set_option linter.unusedVariables false
theorem jsum (l : List ByteArray) : (joinedL l).length ≤ (l.map fun y => (y.size + 1)).sum := by
  have h2 : ∀ r : List ByteArray, (Lib.joinTail [32] (r.map (·.data.toList))).length ≤ (r.map fun y => (y.size + 1)).sum := by
    intro r
    induction r with
    | nil => simp [Lib.joinTail]
    | cons x r ih =>
      have e : (Lib.joinTail [32] ((x :: r).map (·.data.toList))).length = 1 + x.data.toList.length + (Lib.joinTail [32] (r.map (·.data.toList))).length := by
        unfold Lib.joinTail
        rw [List.map_cons, List.map_cons, List.flatten_cons, List.length_append, List.length_append]
        rfl
      have hx : x.data.toList.length = x.size := data_len _
      rw [e]
      simp only [List.map_cons, List.sum_cons]
      omega
  cases l with
  | nil => simp [joinedL, Lib.join_nil]
  | cons x r =>
    have h3 := h2 r
    have hx : x.data.toList.length = x.size := data_len _
    unfold joinedL
    rw [List.map_cons, Lib.join_cons, List.length_append]
    simp only [List.map_cons, List.sum_cons]
    omega
theorem small_weight (l : List CC) (n : Nat) (h : (l.map weightC).sum ≤ n) (hn : n ≤ 1048576) : ∀ x ∈ l, Small (toT x) := by
  intro x hx
  have h2 : weightC x ≤ n := Nat.le_trans ((weight_mem l).2 x hx) h
  have h3 := jsum x.f5
  have h4 := sum_names x.f5
  unfold weightC at h2
  exact ⟨by show x.f0.size ≤ _; omega, by show x.f1.size ≤ _; omega, by show x.f4.size ≤ _; omega, by show x.f5.length ≤ _; omega, by show (joinedL x.f5).length ≤ _; omega⟩
theorem small_b {c : ClT} (h : Small c) : smallB c = true := by
  unfold smallB
  exact decide_eq_true ⟨h.i, h.s, h.u, h.n, h.j⟩
theorem print_some (l : List CC) (hs : ∀ x ∈ l, Small (toT x)) : client_Print.f l = some (printC l) := by
  unfold client_Print.f
  rw [if_pos (List.all_eq_true.2 fun x hx => small_b (hs x hx))]
theorem found_iff (a : ByteArray) (l : List CC) : (foundC a l).2 = true ↔ a ∈ idsC l := by
  induction l with
  | nil => simp [foundC, idsC]
  | cons x r ih =>
    unfold foundC
    unfold idsC at ih ⊢
    rw [List.map_cons, List.mem_cons]
    by_cases h : x.f0.toList = a.toList
    · rw [if_pos h]
      have := toList_inj h
      simp [this]
    · rw [if_neg h, ih]
      constructor
      · exact Or.inr
      · rintro (rfl | h2)
        · exact absurd rfl h
        · exact h2
theorem ids_take (l : List CC) (i : Nat) (h : i < l.length) : idsC (l.take (i + 1)) = idsC (l.take i) ++ [l[i].f0] := by
  unfold idsC
  rw [List.take_succ_eq_append_getElem h, List.map_append]
  rfl
theorem ids_twice (l : List CC) (i : Nat) (h : i < l.length) (hm : l[i].f0 ∈ idsC (l.take i)) : ¬ (idsC l).Nodup := by
  intro hn
  have e : l = l.take i ++ l[i] :: l.drop (i + 1) := by rw [← List.drop_eq_getElem_cons h, List.take_append_drop]
  have e2 : idsC l = idsC (l.take i) ++ l[i].f0 :: idsC (l.drop (i + 1)) := by
    conv => lhs; rw [e]
    unfold idsC
    rw [List.map_append, List.map_cons]
  rw [e2, List.nodup_append] at hn
  exact hn.2.2 _ hm l[i].f0 (by simp) rfl
def printO (l : List CC) : ByteArray × Int := if (linesB l).length > 65536 then (⟨#[]⟩, 1) else (bs (linesB l), 0)
theorem p2 (l : List CC) (hf : ∀ x ∈ l, checkL (toT x) = true) (hn : l.length ≤ 256) : ∀ (m i : Nat), i + m = l.length → Ev (fun k => wicketref11_Print.l2 k (l.map toR) (bs (linesB (l.take i))) (i : Int)) (printO l) := by
  intro m
  induction m with
  | zero =>
    intro i hi
    refine Ev.step (f := fun _ => some (printO l)) (fun k => ?_) (Ev.now _)
    simp only [wicketref11_Print.l2]
    rw [if_neg (by rw [List.length_map]; omega), List.take_of_length_le (by omega)]
    unfold printO
    by_cases h : (linesB l).length > 65536
    · rw [if_pos h, if_pos (by rw [bs_size]; omega)]
    · rw [if_neg h, if_neg (by rw [bs_size]; omega)]
  | succ m ih =>
    intro i hi
    have hlt : i < l.length := by omega
    have hr : rd_T43 (l.map toR) (i : Int) = toR l[i] := by rw [rdR _ _ (by rw [List.length_map]; omega), List.getElem_map]
    have hfit := fits_of _ (hf _ (List.getElem_mem hlt))
    have hll := lineB_len _ hfit
    have hlen := linesB_len (l.take i) fun x hx => hf x (List.mem_of_mem_take hx)
    rw [List.length_take] at hlen
    have hmin : min i l.length ≤ 256 := by omega
    have hs : Ev (fun k => wicketref11_said.f k (toR l[i]).f0 (toR l[i]).f1 (toR l[i]).f2 (toR l[i]).f3 (toR l[i]).f4 (toR l[i]).f5) (bs (lineB (toT l[i]))) := said_ev (toT l[i]) hfit
    refine Ev.step (f := fun k => (wicketref11_said.f k (toR l[i]).f0 (toR l[i]).f1 (toR l[i]).f2 (toR l[i]).f3 (toR l[i]).f4 (toR l[i]).f5).bind fun t521 => (if (bs (linesB (l.take i))).size + t521.size ≤ 9223372036854775807 then (wicketref11_Print.l2 k (l.map toR) (bs (linesB (l.take i)) ++ t521) (wrap64 ((i : Int) + 1))) else none)) (fun k => ?_) (Ev.bind hs ?_)
    · simp only [wicketref11_Print.l2]
      rw [if_pos (by rw [List.length_map]; omega), if_pos (by omega), hr]
    · have hn1 := ih (i + 1) (by omega)
      refine Ev.pos (by rw [bs_size, bs_size]; omega) ?_
      rw [w64 (by omega) (by omega), bs_append, ← linesB_take l i hlt]
      exact hn1
theorem p1 (l : List CC) (hl : SmallC l) (hf : ∀ x ∈ l, checkL (toT x) = true) : ∀ (m i : Nat), i + m = l.length → (idsC (l.take i)).Nodup →
    Ev (fun k => wicketref11_Print.l1 k (l.map toR) (i : Int)) (if ¬ (idsC l).Nodup then (⟨#[]⟩, 8) else if l.length > 256 then (⟨#[]⟩, 32) else printO l) := by
  have h1 := hl.1
  intro m
  induction m with
  | zero =>
    intro i hi hd
    rw [List.take_of_length_le (by omega)] at hd
    by_cases h : l.length > 256
    · refine Ev.step (f := fun _ => some _) (fun k => ?_) (Ev.now _)
      simp only [wicketref11_Print.l1]
      rw [if_neg (by rw [List.length_map]; omega), if_pos (by rw [List.length_map]; omega), if_neg (by simpa using hd), if_pos h]
    · have h2 := p2 l hf (by omega) l.length 0 (by omega)
      refine Ev.step (fun k => ?_) (Ev.eq h2 (by rw [if_neg (by simpa using hd), if_neg h]))
      simp only [wicketref11_Print.l1]
      rw [if_neg (by rw [List.length_map]; omega), if_neg (by rw [List.length_map]; omega)]
      rfl
  | succ m ih =>
    intro i hi hd
    have hlt : i < l.length := by omega
    have hr : rd_T43 (l.map toR) (i : Int) = toR l[i] := by rw [rdR _ _ (by rw [List.length_map]; omega), List.getElem_map]
    have hsm : SmallC (l.take i) := ⟨by rw [List.length_take]; omega, fun x hx => hl.2 x (List.mem_of_mem_take hx)⟩
    have hfd := rfind_ev (l.take i) hsm l[i].f0
    rw [List.map_take] at hfd
    refine Ev.step (f := fun k => (wicketref11_Find.f k ((l.map toR).take i) l[i].f0).bind fun bt510 => (if bt510.2.2.2.2.2.2 = true then (some ((⟨#[]⟩ : ByteArray), 8)) else (wicketref11_Print.l1 k (l.map toR) (wrap64 ((i : Int) + 1))))) (fun k => ?_) (Ev.bind hfd ?_)
    · simp only [wicketref11_Print.l1]
      rw [if_pos (by rw [List.length_map]; omega), if_pos (by omega), if_pos (by rw [List.length_map]; omega), hr, Int.toNat_natCast]
      rfl
    · by_cases hm : l[i].f0 ∈ idsC (l.take i)
      · exact Ev.pos ((found_iff _ _).2 hm) (Ev.eq (Ev.now _) (by rw [if_pos (ids_twice l i hlt hm)]))
      · refine Ev.neg (fun h => hm ((found_iff _ _).1 h)) ?_
        rw [w64 (by omega) (by omega)]
        refine ih (i + 1) (by omega) ?_
        rw [ids_take l i hlt, List.nodup_append]
        refine ⟨hd, by simp, fun a ha b hb e => hm ?_⟩
        rw [List.mem_singleton] at hb
        rw [← hb, ← e]
        exact ha
theorem p0 (l : List CC) (hl : SmallC l) (hs : ∀ x ∈ l, Small (toT x)) : ∀ (m i : Nat), i + m = l.length → (∀ x ∈ l.take i, checkL (toT x) = true) →
    Ev (fun k => wicketref11_Print.l0 k (l.map toR) (i : Int)) (printC l) := by
  have h1 := hl.1
  intro m
  induction m with
  | zero =>
    intro i hi hc
    rw [List.take_of_length_le (by omega)] at hc
    have h2 := p1 l hl hc l.length 0 (by omega) (by simp [idsC])
    have hnb : ¬ badC l = true := by
      intro h
      obtain ⟨x, hx, h2⟩ := List.any_eq_true.1 h
      rw [hc x hx] at h2
      cases h2
    refine Ev.step (fun k => ?_) (Ev.eq h2 (by unfold printC printO; rw [if_neg hnb]))
    simp only [wicketref11_Print.l0]
    rw [if_neg (by rw [List.length_map]; omega)]
    rfl
  | succ m ih =>
    intro i hi hc
    have hlt : i < l.length := by omega
    have hr : rd_T43 (l.map toR) (i : Int) = toR l[i] := by rw [rdR _ _ (by rw [List.length_map]; omega), List.getElem_map]
    have hck : Ev (fun k => wicketref11_Check.f k (toR l[i]).f0 (toR l[i]).f1 (toR l[i]).f2 (toR l[i]).f3 (toR l[i]).f4 (toR l[i]).f5) (numC (checkL (toT l[i]))) := refcheck_ev (toT l[i]) (hs _ (List.getElem_mem hlt))
    refine Ev.step (f := fun k => (wicketref11_Check.f k (toR l[i]).f0 (toR l[i]).f1 (toR l[i]).f2 (toR l[i]).f3 (toR l[i]).f4 (toR l[i]).f5).bind fun t504 => (if t504 = 0 then (wicketref11_Print.l0 k (l.map toR) (wrap64 ((i : Int) + 1))) else (some ((⟨#[]⟩ : ByteArray), 111)))) (fun k => ?_) (Ev.bind hck ?_)
    · simp only [wicketref11_Print.l0]
      rw [if_pos (by rw [List.length_map]; omega), if_pos (by omega), hr]
    · cases hcc : checkL (toT l[i]) with
      | true =>
        refine Ev.pos rfl ?_
        rw [w64 (by omega) (by omega)]
        refine ih (i + 1) (by omega) ?_
        rw [List.take_succ_eq_append_getElem hlt]
        intro x hx
        rcases List.mem_append.1 hx with hx | hx
        · exact hc x hx
        · rw [List.mem_singleton.1 hx]; exact hcc
      | false =>
        refine Ev.neg (by decide) (Ev.eq (Ev.now _) ?_)
        unfold printC
        have hb : badC l = true := List.any_eq_true.2 ⟨l[i], List.getElem_mem hlt, by rw [hcc]; rfl⟩
        rw [if_pos hb]
end Go.Proofs.YtmimipgmhgalaaaGreatDoor.Pure
end
section
namespace Go.Proofs.YtmimipgmhgalaaaGreatDoor.PAll
open Go.RowKit Go.Proofs.YtmimipgmhgalaaaGreatDoorW.PrintWords Go.Proofs.YtmimipgmhgalaaaGreatDoor.Plain Go.Proofs.YtmimipgmhgalaaaGreatDoor.Pure
set_option linter.unusedVariables false
theorem C_bytes (w : World) (s : ByteArray) (hs : s.size ≤ 9223372036854775807) : Kd.C (Kd.int .u8) (Lib.bytesWorld w 5 s) (some ⟨w.heap.size, 0, none⟩) (bytesOf s).length (bytesOf s) := by
  refine Kd.C_of_reads (enc := Value.int .u8) (d := (0 : Int)) (h1 := fun _ => rfl) ⟨rfl, by rw [bytesOf_length]; exact hs, fun h0 => ⟨_, rfl, fun j hj => ?_⟩⟩
  rw [bytesOf_length] at hj
  have h := Lib.bytesWorld_cell w 5 s j hj
  have e : (Addr.mk w.heap.size 0 none).add j = ⟨w.heap.size, j, none⟩ := by
    unfold Addr.add
    by_cases h0 : j = 0
    · subst h0; rfl
    · rw [if_neg h0]; simp
  rw [e, h]
  have hl : j < s.data.toList.length := by rw [Array.length_toList]; exact hj
  congr 2
  simp [bytesOf, List.getD]
  cases s.data[j]? <;> simp
theorem below_bytes (w : World) (s : ByteArray) : Below w.heap.size w (Lib.bytesWorld w 5 s) := by
  refine ⟨rfl, rfl, rfl, ?_, fun k hk => Lib.bytesWorld_at_old w 5 s k hk⟩
  rw [Lib.bytesWorld_size]; omega
theorem xor_nat (x y : Nat) (hx : x < 256) (hy : y < 256) : Go.bits .xor .u8 (x : Int) (y : Int) = ((x ^^^ y : Nat) : Int) ∧ x ^^^ y < 256 := by
  have h := Nat.xor_lt_two_pow (n := 8) hx hy
  refine ⟨?_, h⟩
  simp only [bits, BitVec.ofInt_natCast, BitVec.toNat_xor, BitVec.toNat_ofNat]
  rw [show (2 : Nat) ^ IntKind.u8.bits = 256 from rfl, Nat.mod_eq_of_lt hx, Nat.mod_eq_of_lt hy]
  exact wraps_u8 _ (by omega) (by omega)
theorem or_xor (d x y : Nat) (hd : d < 256) (hx : x < 256) (hy : y < 256) : ∃ n : Nat, n < 256 ∧ Go.bits .or .u8 (d : Int) (Go.bits .xor .u8 (x : Int) (y : Int)) = (n : Int) ∧ (n = 0 ↔ d = 0 ∧ x = y) := by
  obtain ⟨h1, h2⟩ := xor_nat x y hx hy
  have h3 := (bits_nat .u8 8 (by decide) wraps_u8 d (x ^^^ y) hd h2).2
  refine ⟨d ||| (x ^^^ y), Nat.or_lt_two_pow (n := 8) hd h2, by rw [h1, h3], ?_⟩
  rw [Nat.or_eq_zero_iff]
  have hx : x ^^^ y = 0 ↔ x = y := by
    constructor
    · intro h
      have h5 := congrArg (fun z => z ^^^ y) h
      simpa [Nat.xor_assoc] using h5
    · rintro rfl; simp
  rw [hx]
theorem rd_bytes (s : ByteArray) (i : Nat) (h : i < s.size) : rd (bytesOf s) (i : Int) = (s[i].toNat : Int) := by
  have h1 : i < s.data.toList.length := by rw [Spec.data_len]; exact h
  unfold rd bytesOf
  rw [Int.toNat_natCast, List.getD_eq_getElem?_getD, List.getElem?_map, List.getElem?_eq_getElem h1]
  rfl
theorem same_loop (a b : ByteArray) (hl : a.size = b.size) (hs : a.size ≤ 140737488355328) : ∀ (m i d : Nat), i + m = a.size → d < 256 →
    Ev (fun k => digest_Same.l0 k (bytesOf a) (bytesOf b) (d : Int) (a.size : Int) (i : Int)) (decide (d = 0) && decide (a.data.toList.drop i = b.data.toList.drop i)) := by
  have hal := bytesOf_length a
  have hbl := bytesOf_length b
  intro m
  induction m with
  | zero =>
    intro i d hi hd
    rw [List.drop_eq_nil_of_le (by rw [Spec.data_len]; omega), List.drop_eq_nil_of_le (by rw [Spec.data_len]; omega)]
    refine Ev.step (f := fun _ => some ((d : Int) == 0)) (fun k => ?_) (Ev.eq (Ev.now _) ?_)
    · simp only [digest_Same.l0]
      rw [if_neg (by omega)]
    · rw [decide_eq_true rfl, Bool.and_true, Bool.eq_iff_iff]; simp
  | succ m ih =>
    intro i d hi hd
    have ha : i < a.size := by omega
    have hb : i < b.size := by omega
    have ra := rd_bytes a i ha
    have rb := rd_bytes b i hb
    obtain ⟨n, hn, he, hz⟩ := or_xor d a[i].toNat b[i].toNat hd a[i].toNat_lt b[i].toNat_lt
    refine Ev.step (fun k => ?_) (Ev.eq (ih (i + 1) n (by omega) hn) ?_)
    · simp only [digest_Same.l0]
      rw [if_pos (by omega), if_pos (by omega), if_pos (by omega), if_pos (by omega), ra, rb, he, w64 (by omega) (by omega)]
      rfl
    · rw [Spec.drop_at a i ha, Spec.drop_at b i hb, Bool.eq_iff_iff]
      simp only [Bool.and_eq_true, decide_eq_true_eq, List.cons.injEq, hz]
      constructor
      · rintro ⟨⟨h1, h2⟩, h3⟩
        exact ⟨h1, UInt8.toNat_inj.1 h2, h3⟩
      · rintro ⟨h1, h2, h3⟩
        exact ⟨⟨h1, by rw [h2]⟩, h3⟩
theorem same_ev (a b : ByteArray) (hs : a.size ≤ 140737488355328) : Ev (fun k => digest_Same.f k (bytesOf a) (bytesOf b)) (decide (a = b)) := by
  have hal := bytesOf_length a
  have hbl := bytesOf_length b
  unfold digest_Same.f
  by_cases hl : a.size = b.size
  · refine Ev.pos (by omega) ?_
    have h := same_loop a b hl hs a.size 0 0 (by omega) (by omega)
    rw [List.drop_zero, List.drop_zero, decide_eq_true rfl, Bool.true_and] at h
    rw [hal]
    refine Ev.eq h ?_
    rw [decide_eq_decide]
    constructor
    · intro e
      have := congrArg Spec.bs e
      rwa [Spec.bs_of, Spec.bs_of] at this
    · intro e; rw [e]
  · refine Ev.neg (by omega) (Ev.eq (Ev.now _) ?_)
    rw [eq_comm, decide_eq_false_iff_not]
    intro e; exact hl (by rw [e])
def client_same.f (a0 a1 : ByteArray) : Option Bool := if a0.size ≤ 140737488355328 ∧ a1.size ≤ 140737488355328 then some (decide (a0 = a1)) else none
set_option maxHeartbeats 4000000 in
set_option maxRecDepth 100000 in
theorem client_same.calls (a0 a1 : ByteArray) (r1 : Bool) (w : World) (h : client_same.f a0 a1 = some r1) :
    Calls Tryz.prog 109 #[.string a0, .string a1] w fun e w' => e = .returned (.bool r1) ∧ Below w.heap.size w w' := by
  unfold client_same.f at h
  split at h
  · rename_i hs
    obtain rfl := Option.some.inj h
    obtain ⟨k, hk⟩ := Ev.rounds (same_ev a0 a1 hs.1)
    have c1 := Lib.run_convert_string_bytes w 9 79 5 a0 Tryz.underlying9 Tryz.underlying79 Tryz.underlying5
    have c2 := Lib.run_convert_string_bytes (Lib.bytesWorld w 5 a0) 9 79 5 a1 Tryz.underlying9 Tryz.underlying79 Tryz.underlying5
    have b1 := below_bytes w a0
    have b2 := below_bytes (Lib.bytesWorld w 5 a0) a1
    have hB := b1.trans (b2.mono b1.size)
    have k1 := Kd.C_below (C_bytes w a0 (by omega)) b2
    have k2 := C_bytes (Lib.bytesWorld w 5 a0) a1 (by omega)
    have g1 : (bytesOf a0).length ≤ grownCap w a0.size 0 5 := by rw [bytesOf_length]; exact grownCap_ge ..
    have g2 : (bytesOf a1).length ≤ grownCap (Lib.bytesWorld w 5 a0) a1.size 0 5 := by rw [bytesOf_length]; exact grownCap_ge ..
    have hcall := digest_Same.calls k _ _ (bytesOf a0) _ _ (bytesOf a1) _ _ k1 g1 k2 g2 hk
    rw [bytesOf_length, bytesOf_length, Lib.bytesWorld_size] at hcall
    rw [Lib.bytesWorld_size] at c2
    clear k1 k2 g1 g2 b1 b2 hk
    go_enter Tryz.func109, Tryz.ntmps109
    go_wp2_with (go_at_call 137; refine hcall.mono ?_; rintro e w1 ⟨rfl, hd⟩)
    go_ret
    exact ⟨rfl, hB.trans ((hd.below).mono hB.size)⟩
  · cases h
end Go.Proofs.YtmimipgmhgalaaaGreatDoor.PAll
end
section
namespace Go.Proofs.YtmimipgmhgalaaaGreatDoor.PAll
open Go.RowKit Go.Proofs.YtmimipgmhgalaaaGreatDoorW.PrintWords Go.Proofs.YtmimipgmhgalaaaGreatDoorW.PrintLast Go.Proofs.YtmimipgmhgalaaaGreatDoorW.PrintMore
set_option linter.unusedVariables false
set_option linter.unusedSimpArgs false
theorem put_six {w : World} {g : Nat} {t : TypeId} {a0 a1 a2 a3 a4 a5 : Value} (h : w.heap[g]? = some (.cells #[a0, a1, a2, a3, a4, a5] t (0, 0))) (b0 b1 b2 b3 b4 b5 : Value) :
    ((((((w.setCell ⟨g, 0, none⟩ b0).setCell ⟨g, 1, none⟩ b1).setCell ⟨g, 2, none⟩ b2).setCell ⟨g, 3, none⟩ b3).setCell ⟨g, 4, none⟩ b4).setCell ⟨g, 5, none⟩ b5).heap[g]? = some (.cells #[b0, b1, b2, b3, b4, b5] t (0, 0)) :=
  blk_put (blk_put (blk_put (blk_put (blk_put (blk_put h 0 b0 rfl) 1 b1 rfl) 2 b2 rfl) 3 b3 rfl) 4 b4 rfl) 5 b5 rfl
theorem below_six {V w : World} {g : Nat} (h : Below V.heap.size V w) (hg : V.heap.size ≤ g) (b0 b1 b2 b3 b4 b5 : Value) :
    Below V.heap.size V ((((((w.setCell ⟨g, 0, none⟩ b0).setCell ⟨g, 1, none⟩ b1).setCell ⟨g, 2, none⟩ b2).setCell ⟨g, 3, none⟩ b3).setCell ⟨g, 4, none⟩ b4).setCell ⟨g, 5, none⟩ b5) :=
  below_set (below_set (below_set (below_set (below_set (below_set h hg) hg) hg) hg) hg) hg
set_option maxRecDepth 100000 in
set_option maxHeartbeats 1000000 in
theorem proven_yes (A : Option Addr) (c : Nat) (V : World) : Calls Tryz.prog 70 #[.agg #[.string ⟨#[98, 111, 120]⟩, .string ⟨#[115]⟩, .int .i64 2, .bool false, .string ⟨#[]⟩, .slice A 1 c], .int .i64 2, .string ⟨#[115]⟩] V fun e w' => e = .returned (.tuple #[.agg #[.string ⟨#[98, 111, 120]⟩, .string ⟨#[115]⟩, .int .i64 2, .bool false, .string ⟨#[]⟩, .slice A 1 c], .int .i64 2, .int .i64 0]) ∧ Below V.heap.size V w' := by
  have HS := Lib.hid (fun W : World => client_same.calls ⟨#[115]⟩ ⟨#[115]⟩ true W (by kernel_rfl))
  have HB := Lib.hid (Below.refl V.heap.size V)
  go_enter Tryz.func70, Tryz.ntmps70
  go_upto_block 2 with (first | ((with_reducible refine gate_dst (N := 3) rfl ?_); refine box_event ?hg (N := 3) ?hd (cs := #[.string ⟨#[98, 111, 120]⟩, .string ⟨#[115]⟩, .int .i64 2, .bool false, .string ⟨#[]⟩, .slice A 1 c]) (t := 40) ?hr ?_; (case hd => rfl); (case hg => rfl); (case hr => first | (go_simp; done) | (go_simp; rfl)); intro p hg w_p hbox hb; have n0_ := Lib.hid (below_step (w := V) (by repeat (first | (with_reducible first | exact HB.out | apply below_alloc | apply pw_below_drewN | apply below_drew1) | exact HB.out)) hb); have BKp := Lib.hid hbox; have GEp := Lib.hid ((by rw [hg]; exact below_size (by repeat (first | (with_reducible first | exact HB.out | apply below_alloc | apply pw_below_drewN | apply below_drew1) | exact HB.out))) : V.heap.size ≤ p); (try have BKO := Lib.hid (blk_below (by (with_reducible repeat (first | refine blk_drewN ?_ _ | refine blk_drew ?_ | refine blk_alloc ?_ _)); exact BKq.out) hb)); clear HB hbox hb hg; have HB := n0_; clear n0_) | ((with_reducible refine gate_dst (N := 6) rfl ?_); refine box_event ?hg (N := 6) ?hd (cs := #[.string ⟨#[]⟩, .string ⟨#[]⟩, .int .i64 0, .bool false, .string ⟨#[]⟩, .slice none 0 0]) (t := 40) ?hr ?_; (case hd => rfl); (case hg => rfl); (case hr => first | (go_simp; done) | (go_simp; rfl)); intro q hg w_q hbox hb; have n0_ := Lib.hid (below_step (w := V) (by repeat (first | (with_reducible first | exact HB.out | apply below_alloc | apply pw_below_drewN | apply below_drew1) | exact HB.out)) hb); have BKq := Lib.hid hbox; have GEq := Lib.hid ((by rw [hg]; exact below_size (by repeat (first | (with_reducible first | exact HB.out | apply below_alloc | apply pw_below_drewN | apply below_drew1) | exact HB.out))) : V.heap.size ≤ q); (try have BKO := Lib.hid (blk_below (by (with_reducible repeat (first | refine blk_drewN ?_ _ | refine blk_drew ?_ | refine blk_alloc ?_ _)); exact BKp.out) hb)); clear HB hbox hb hg; have HB := n0_; clear n0_))
  have BP := BKO
  have BQ := BKq
  clear BKp BKO BKq
  have c30 := (blk_cell BP.out 0).trans rfl; have f30 := blk_frozen BP.out 0; have c60 := (blk_cell BQ.out 0).trans rfl; have f60 := blk_frozen BQ.out 0; have c31 := (blk_cell BP.out 1).trans rfl; have f31 := blk_frozen BP.out 1; have c61 := (blk_cell BQ.out 1).trans rfl; have f61 := blk_frozen BQ.out 1; have c32 := (blk_cell BP.out 2).trans rfl; have f32 := blk_frozen BP.out 2; have c62 := (blk_cell BQ.out 2).trans rfl; have f62 := blk_frozen BQ.out 2; have c33 := (blk_cell BP.out 3).trans rfl; have f33 := blk_frozen BP.out 3; have c63 := (blk_cell BQ.out 3).trans rfl; have f63 := blk_frozen BQ.out 3; have c34 := (blk_cell BP.out 4).trans rfl; have f34 := blk_frozen BP.out 4; have c64 := (blk_cell BQ.out 4).trans rfl; have f64 := blk_frozen BQ.out 4; have c35 := (blk_cell BP.out 5).trans rfl; have f35 := blk_frozen BP.out 5; have c65 := (blk_cell BQ.out 5).trans rfl; have f65 := blk_frozen BQ.out 5
  go_wp2_with (go_at_call 109; (with_reducible refine (HS.out _).mono ?_); rintro e w5 ⟨rfl, hb⟩; have n1_ := Lib.hid (blk_below BP.out hb); have n2_ := Lib.hid (blk_below BQ.out hb); have n3_ := Lib.hid (below_step HB.out hb); clear hb BP BQ HB; clear c30 f30 c60 f60 c31 f31 c61 f61 c32 f32 c62 f62 c33 f33 c63 f63 c34 f34 c64 f64 c35 f35 c65 f65; have BP := n1_; have BQ := n2_; have HB := n3_; clear n1_ n2_ n3_; have c30 := (blk_cell BP.out 0).trans rfl; have f30 := blk_frozen BP.out 0; have c60 := (blk_cell BQ.out 0).trans rfl; have f60 := blk_frozen BQ.out 0; have c31 := (blk_cell BP.out 1).trans rfl; have f31 := blk_frozen BP.out 1; have c61 := (blk_cell BQ.out 1).trans rfl; have f61 := blk_frozen BQ.out 1; have c32 := (blk_cell BP.out 2).trans rfl; have f32 := blk_frozen BP.out 2; have c62 := (blk_cell BQ.out 2).trans rfl; have f62 := blk_frozen BQ.out 2; have c33 := (blk_cell BP.out 3).trans rfl; have f33 := blk_frozen BP.out 3; have c63 := (blk_cell BQ.out 3).trans rfl; have f63 := blk_frozen BQ.out 3; have c34 := (blk_cell BP.out 4).trans rfl; have f34 := blk_frozen BP.out 4; have c64 := (blk_cell BQ.out 4).trans rfl; have f64 := blk_frozen BQ.out 4; have c35 := (blk_cell BP.out 5).trans rfl; have f35 := blk_frozen BP.out 5; have c65 := (blk_cell BQ.out 5).trans rfl; have f65 := blk_frozen BQ.out 5)
  refine bodyPost_ret (results_ctt rfl _ _ q 40 #[.string ⟨#[98, 111, 120]⟩, .string ⟨#[115]⟩, .int .i64 2, .bool false, .string ⟨#[]⟩, .slice A 1 c] (0, 0) _ rfl (put_six BQ.out _ _ _ _ _ _) Tryz.underlying40 rfl (by kernel_rfl)) rfl ?_
  exact ⟨rfl, below_six HB.out GEq.out _ _ _ _ _ _⟩
set_option maxRecDepth 100000 in
set_option maxHeartbeats 1000000 in
theorem proven_no (A : Option Addr) (c : Nat) (V : World) : Calls Tryz.prog 70 #[.agg #[.string ⟨#[98, 111, 120]⟩, .string ⟨#[115]⟩, .int .i64 2, .bool false, .string ⟨#[]⟩, .slice A 1 c], .int .i64 2, .string ⟨#[]⟩] V fun e w' => e = .returned (.tuple #[.agg #[.string ⟨#[]⟩, .string ⟨#[]⟩, .int .i64 0, .bool false, .string ⟨#[]⟩, .slice none 0 0], .int .i64 0, .int .i64 112]) ∧ Below V.heap.size V w' := by
  have HS := Lib.hid (fun W : World => client_same.calls ⟨#[115]⟩ ⟨#[]⟩ false W (by kernel_rfl))
  have HB := Lib.hid (Below.refl V.heap.size V)
  go_enter Tryz.func70, Tryz.ntmps70
  go_upto_block 2 with (first | ((with_reducible refine gate_dst (N := 3) rfl ?_); refine box_event ?hg (N := 3) ?hd (cs := #[.string ⟨#[98, 111, 120]⟩, .string ⟨#[115]⟩, .int .i64 2, .bool false, .string ⟨#[]⟩, .slice A 1 c]) (t := 40) ?hr ?_; (case hd => rfl); (case hg => rfl); (case hr => first | (go_simp; done) | (go_simp; rfl)); intro p hg w_p hbox hb; have n0_ := Lib.hid (below_step (w := V) (by repeat (first | (with_reducible first | exact HB.out | apply below_alloc | apply pw_below_drewN | apply below_drew1) | exact HB.out)) hb); have BKp := Lib.hid hbox; have GEp := Lib.hid ((by rw [hg]; exact below_size (by repeat (first | (with_reducible first | exact HB.out | apply below_alloc | apply pw_below_drewN | apply below_drew1) | exact HB.out))) : V.heap.size ≤ p); (try have BKO := Lib.hid (blk_below (by (with_reducible repeat (first | refine blk_drewN ?_ _ | refine blk_drew ?_ | refine blk_alloc ?_ _)); exact BKq.out) hb)); clear HB hbox hb hg; have HB := n0_; clear n0_) | ((with_reducible refine gate_dst (N := 6) rfl ?_); refine box_event ?hg (N := 6) ?hd (cs := #[.string ⟨#[]⟩, .string ⟨#[]⟩, .int .i64 0, .bool false, .string ⟨#[]⟩, .slice none 0 0]) (t := 40) ?hr ?_; (case hd => rfl); (case hg => rfl); (case hr => first | (go_simp; done) | (go_simp; rfl)); intro q hg w_q hbox hb; have n0_ := Lib.hid (below_step (w := V) (by repeat (first | (with_reducible first | exact HB.out | apply below_alloc | apply pw_below_drewN | apply below_drew1) | exact HB.out)) hb); have BKq := Lib.hid hbox; have GEq := Lib.hid ((by rw [hg]; exact below_size (by repeat (first | (with_reducible first | exact HB.out | apply below_alloc | apply pw_below_drewN | apply below_drew1) | exact HB.out))) : V.heap.size ≤ q); (try have BKO := Lib.hid (blk_below (by (with_reducible repeat (first | refine blk_drewN ?_ _ | refine blk_drew ?_ | refine blk_alloc ?_ _)); exact BKp.out) hb)); clear HB hbox hb hg; have HB := n0_; clear n0_))
  have BP := BKO
  have BQ := BKq
  clear BKp BKO BKq
  have c30 := (blk_cell BP.out 0).trans rfl; have f30 := blk_frozen BP.out 0; have c60 := (blk_cell BQ.out 0).trans rfl; have f60 := blk_frozen BQ.out 0; have c31 := (blk_cell BP.out 1).trans rfl; have f31 := blk_frozen BP.out 1; have c61 := (blk_cell BQ.out 1).trans rfl; have f61 := blk_frozen BQ.out 1; have c32 := (blk_cell BP.out 2).trans rfl; have f32 := blk_frozen BP.out 2; have c62 := (blk_cell BQ.out 2).trans rfl; have f62 := blk_frozen BQ.out 2; have c33 := (blk_cell BP.out 3).trans rfl; have f33 := blk_frozen BP.out 3; have c63 := (blk_cell BQ.out 3).trans rfl; have f63 := blk_frozen BQ.out 3; have c34 := (blk_cell BP.out 4).trans rfl; have f34 := blk_frozen BP.out 4; have c64 := (blk_cell BQ.out 4).trans rfl; have f64 := blk_frozen BQ.out 4; have c35 := (blk_cell BP.out 5).trans rfl; have f35 := blk_frozen BP.out 5; have c65 := (blk_cell BQ.out 5).trans rfl; have f65 := blk_frozen BQ.out 5
  go_wp2_with (go_at_call 109; (with_reducible refine (HS.out _).mono ?_); rintro e w5 ⟨rfl, hb⟩; have n1_ := Lib.hid (blk_below BP.out hb); have n2_ := Lib.hid (blk_below BQ.out hb); have n3_ := Lib.hid (below_step HB.out hb); clear hb BP BQ HB; clear c30 f30 c60 f60 c31 f31 c61 f61 c32 f32 c62 f62 c33 f33 c63 f63 c34 f34 c64 f64 c35 f35 c65 f65; have BP := n1_; have BQ := n2_; have HB := n3_; clear n1_ n2_ n3_; have c30 := (blk_cell BP.out 0).trans rfl; have f30 := blk_frozen BP.out 0; have c60 := (blk_cell BQ.out 0).trans rfl; have f60 := blk_frozen BQ.out 0; have c31 := (blk_cell BP.out 1).trans rfl; have f31 := blk_frozen BP.out 1; have c61 := (blk_cell BQ.out 1).trans rfl; have f61 := blk_frozen BQ.out 1; have c32 := (blk_cell BP.out 2).trans rfl; have f32 := blk_frozen BP.out 2; have c62 := (blk_cell BQ.out 2).trans rfl; have f62 := blk_frozen BQ.out 2; have c33 := (blk_cell BP.out 3).trans rfl; have f33 := blk_frozen BP.out 3; have c63 := (blk_cell BQ.out 3).trans rfl; have f63 := blk_frozen BQ.out 3; have c34 := (blk_cell BP.out 4).trans rfl; have f34 := blk_frozen BP.out 4; have c64 := (blk_cell BQ.out 4).trans rfl; have f64 := blk_frozen BQ.out 4; have c35 := (blk_cell BP.out 5).trans rfl; have f35 := blk_frozen BP.out 5; have c65 := (blk_cell BQ.out 5).trans rfl; have f65 := blk_frozen BQ.out 5)
  refine bodyPost_ret (results_ctt rfl _ _ q 40 #[.string ⟨#[]⟩, .string ⟨#[]⟩, .int .i64 0, .bool false, .string ⟨#[]⟩, .slice none 0 0] (0, 0) _ rfl (put_six BQ.out _ _ _ _ _ _) Tryz.underlying40 rfl (by kernel_rfl)) rfl ?_
  exact ⟨rfl, below_six HB.out GEq.out _ _ _ _ _ _⟩
def liveL : List S40 := [⟨⟨#[98, 111, 120]⟩, ⟨#[115]⟩, 2, false, ⟨#[]⟩, [⟨#[112, 97, 121]⟩]⟩, ⟨⟨#[116, 118]⟩, ⟨#[]⟩, 1, false, ⟨#[]⟩, []⟩]
def liveP1 : List S68 := [⟨⟨#[99, 108, 105, 101, 110, 116, 95, 105, 100]⟩, ⟨#[98, 111, 120]⟩⟩]
def liveP2 : List S68 := [⟨⟨#[99, 108, 105, 101, 110, 116, 95, 105, 100]⟩, ⟨#[98, 111, 120]⟩⟩, ⟨⟨#[99, 108, 105, 101, 110, 116, 95, 115, 101, 99, 114, 101, 116]⟩, ⟨#[115]⟩⟩]
theorem six_far {w : World} {g k : Nat} (h : k ≠ g) (b0 b1 b2 b3 b4 b5 : Value) :
    ((((((w.setCell ⟨g, 0, none⟩ b0).setCell ⟨g, 1, none⟩ b1).setCell ⟨g, 2, none⟩ b2).setCell ⟨g, 3, none⟩ b3).setCell ⟨g, 4, none⟩ b4).setCell ⟨g, 5, none⟩ b5).heap[k]? = w.heap[k]? :=
  (Below.heap_setCell _ _ _ _ h).trans <| (Below.heap_setCell _ _ _ _ h).trans <| (Below.heap_setCell _ _ _ _ h).trans <| (Below.heap_setCell _ _ _ _ h).trans <| (Below.heap_setCell _ _ _ _ h).trans (Below.heap_setCell _ _ _ _ h)
theorem cS_one {w : World} {g : Nat} {cs : Array Value} {t : TypeId} {x : ByteArray} (h : w.heap[g]? = some (.cells cs t (0, 0))) (h0 : cs[0]? = some (.string x)) : Kd.C Kd.string w (some ⟨g, 0, none⟩) 1 [x] := by
  refine ⟨rfl, by omega, fun _ => ⟨_, rfl, fun j p hj => ?_⟩⟩
  rcases j with _ | j
  · obtain rfl : x = p := Option.some.inj hj
    refine ⟨[.string x], rfl, rfl, fun i u hu => ?_⟩
    rw [← hu]
    rcases i with _ | i
    · exact (blk_cell h 0).trans h0
    · cases hu
  · cases hj
set_option maxRecDepth 100000 in
set_option maxHeartbeats 1000000 in
theorem auth_yes (V : World) (g s c : Nat) (h1 : Kd.C k40 V (some ⟨g, 0, none⟩) 2 liveL) (h2 : Kd.C k68 V (some ⟨s, 0, none⟩) 2 liveP2) (h3 : 2 ≤ c) : Calls Tryz.prog 34 #[.slice (some ⟨g, 0, none⟩) 2 c, .string ⟨#[]⟩, .slice (some ⟨s, 0, none⟩) 2 2] V fun e w' => ∃ (A : Option Addr) (c5 : Nat), e = .returned (.tuple #[.agg #[.string ⟨#[98, 111, 120]⟩, .string ⟨#[115]⟩, .int .i64 2, .bool false, .string ⟨#[]⟩, .slice A 1 c5], .int .i64 2, .int .i64 0]) ∧ 1 ≤ c5 ∧ Kd.C Kd.string w' A 1 [⟨#[112, 97, 121]⟩] ∧ Below V.heap.size V w' := by
  have HO1 := Lib.hid (fun (W : World) (h : Kd.C k68 W (some ⟨s, 0, none⟩) 2 liveP2) => show Calls Tryz.prog 69 #[.slice (some ⟨s, 0, none⟩) 2 2, .string ⟨#[99, 108, 105, 101, 110, 116, 95, 105, 100]⟩] W (fun e w' => e = .returned (.tuple #[.string ⟨#[98, 111, 120]⟩, .bool true, .int .i64 0]) ∧ Below W.heap.size W w') from urlform_One.calls 400 (some ⟨s, 0, none⟩) 2 liveP2 ⟨#[99, 108, 105, 101, 110, 116, 95, 105, 100]⟩ _ _ _ W h (Nat.le_refl _) (by kernel_rfl))
  have HO2 := Lib.hid (fun (W : World) (h : Kd.C k68 W (some ⟨s, 0, none⟩) 2 liveP2) => show Calls Tryz.prog 69 #[.slice (some ⟨s, 0, none⟩) 2 2, .string ⟨#[99, 108, 105, 101, 110, 116, 95, 115, 101, 99, 114, 101, 116]⟩] W (fun e w' => e = .returned (.tuple #[.string ⟨#[115]⟩, .bool true, .int .i64 0]) ∧ Below W.heap.size W w') from urlform_One.calls 400 (some ⟨s, 0, none⟩) 2 liveP2 ⟨#[99, 108, 105, 101, 110, 116, 95, 115, 101, 99, 114, 101, 116]⟩ _ _ _ W h (Nat.le_refl _) (by kernel_rfl))
  have HF := Lib.hid (fun (W : World) (h : Kd.C k40 W (some ⟨g, 0, none⟩) 2 liveL) => show Calls Tryz.prog 29 #[.slice (some ⟨g, 0, none⟩) 2 c, .string ⟨#[98, 111, 120]⟩] W (fun e w' => ∃ (g2 c5 : Nat) (cs : Array Value), e = .returned (.tuple #[.agg #[.string ⟨#[98, 111, 120]⟩, .string ⟨#[115]⟩, .int .i64 2, .bool false, .string ⟨#[]⟩, .slice (some ⟨g2, 0, none⟩) 1 c5], .bool true]) ∧ 1 ≤ c5 ∧ W.heap.size ≤ g2 ∧ w'.heap[g2]? = some (.cells cs 9 (0, 0)) ∧ cs[0]? = some (.string ⟨#[112, 97, 121]⟩) ∧ Below W.heap.size W w') from by
    refine (client_Find.calls 400 (some ⟨g, 0, none⟩) c liveL ⟨#[98, 111, 120]⟩ ⟨#[98, 111, 120]⟩ ⟨#[115]⟩ 2 false ⟨#[]⟩ [⟨#[112, 97, 121]⟩] true W h h3 (by kernel_rfl)).mono ?_
    rintro e w' ⟨v5, rfl, hR, hb⟩
    obtain ⟨g2, c5, rfl, hg2, _, cs, hcs⟩ := Kd.R_form hR (by decide)
    obtain ⟨_, hl, hC⟩ := Kd.R_reads' hR
    obtain ⟨ad, cc, hA, _, hK, hcell⟩ := Kd.C_get hC (⟨#[]⟩ : ByteArray) 0 (by omega) (by decide)
    obtain rfl : (⟨g2, 0, none⟩ : Addr) = ad := Option.some.inj hA
    have hK' : cc = [.string ⟨#[112, 97, 121]⟩] := hK
    subst hK'
    exact ⟨g2, c5, cs, rfl, hl, hg2, hcs, (blk_cell hcs 0).symm.trans (hcell 0 _ rfl), hb⟩)
  go_enter Tryz.func34, Tryz.ntmps34
  go_upto_region 1 with ((with_reducible refine gate_dst (N := 6) rfl ?_); refine box_event ?hg (N := 6) ?hd (cs := #[.string ⟨#[]⟩, .string ⟨#[]⟩, .int .i64 0, .bool false, .string ⟨#[]⟩, .slice none 0 0]) (t := 40) ?hr ?_; (case hd => rfl); (case hg => rfl); (case hr => first | (go_simp; done) | (go_simp; rfl)); intro q hg w_q hbox hb; have BQ := Lib.hid hbox; have GE := Lib.hid ((by rw [hg]; exact Nat.le_refl _) : V.heap.size ≤ q); have HB := Lib.hid hb; have HC := Lib.hid (Kd.C_below h1 hb); have HD := Lib.hid (Kd.C_below h2 hb); clear hbox hg hb h1 h2)
  go_wp2_with (first | (go_at_call 69; (with_reducible refine (HO1.out _ HD.out).mono ?_); rintro e w1 ⟨rfl, hb⟩; have n1_ := Lib.hid (below_step HB.out hb); have n2_ := Lib.hid (blk_below BQ.out hb); have n3_ := Lib.hid (Kd.C_below HC.out hb); have n4_ := Lib.hid (Kd.C_below HD.out hb); clear HB BQ HC HD; have HB := n1_; have BQ := n2_; have HC := n3_; have HD := n4_; clear n1_ n2_ n3_ n4_ hb) | (go_at_call 69; (with_reducible refine (HO2.out _ HD.out).mono ?_); rintro e w2 ⟨rfl, hb⟩; have n1_ := Lib.hid (below_step HB.out hb); have n2_ := Lib.hid (blk_below BQ.out hb); have n3_ := Lib.hid (Kd.C_below HC.out hb); have n4_ := Lib.hid (Kd.C_below HD.out hb); clear HB BQ HC HD; have HB := n1_; have BQ := n2_; have HC := n3_; have HD := n4_; clear n1_ n2_ n3_ n4_ hb) | (go_at_call 29; (with_reducible refine (HF.out _ HC.out).mono ?_); rintro e w3 ⟨g2, c5, cs, rfl, hc5, hg2, hcs, h0, hb⟩; have NE := Lib.hid ((by have := blk_lt BQ.out; omega) : g2 ≠ q); have H5 := Lib.hid hc5; have H0 := Lib.hid h0; have BF := Lib.hid hcs; clear hc5 hg2 hcs h0; have n1_ := Lib.hid (below_step HB.out hb); have n2_ := Lib.hid (blk_below BQ.out hb); have n3_ := Lib.hid (Kd.C_below HC.out hb); have n4_ := Lib.hid (Kd.C_below HD.out hb); clear HB BQ HC HD; have HB := n1_; have BQ := n2_; have HC := n3_; have HD := n4_; clear n1_ n2_ n3_ n4_ hb) | (go_at_call 70; (with_reducible refine (proven_yes _ _ _).mono ?_); rintro e w4 ⟨rfl, hb⟩; have n1_ := Lib.hid (below_step (below_alloc HB.out _) hb); have n2_ := Lib.hid (blk_below (blk_alloc BQ.out _) hb); have n5_ := Lib.hid (blk_below (blk_alloc BF.out _) hb); clear HB BQ BF HC HD hb; have HB := n1_; have BQ := n2_; have BF := n5_; clear n1_ n2_ n5_; have c60 := (blk_cell BQ.out 0).trans rfl; have f60 := blk_frozen BQ.out 0; have c61 := (blk_cell BQ.out 1).trans rfl; have f61 := blk_frozen BQ.out 1; have c62 := (blk_cell BQ.out 2).trans rfl; have f62 := blk_frozen BQ.out 2; have c63 := (blk_cell BQ.out 3).trans rfl; have f63 := blk_frozen BQ.out 3; have c64 := (blk_cell BQ.out 4).trans rfl; have f64 := blk_frozen BQ.out 4; have c65 := (blk_cell BQ.out 5).trans rfl; have f65 := blk_frozen BQ.out 5))
  refine bodyPost_ret (results_ctt rfl _ _ q 40 #[.string ⟨#[98, 111, 120]⟩, .string ⟨#[115]⟩, .int .i64 2, .bool false, .string ⟨#[]⟩, .slice (some ⟨g2, 0, none⟩) 1 c5] (0, 0) _ rfl (put_six BQ.out _ _ _ _ _ _) Tryz.underlying40 rfl (by kernel_rfl)) rfl ?_
  exact ⟨some ⟨g2, 0, none⟩, c5, rfl, H5.out, cS_one ((six_far NE.out _ _ _ _ _ _).trans BF.out) H0.out, below_six HB.out GE.out _ _ _ _ _ _⟩
set_option maxRecDepth 100000 in
set_option maxHeartbeats 1000000 in
theorem auth_no (V : World) (g s c : Nat) (h1 : Kd.C k40 V (some ⟨g, 0, none⟩) 2 liveL) (h2 : Kd.C k68 V (some ⟨s, 0, none⟩) 1 liveP1) (h3 : 2 ≤ c) : Calls Tryz.prog 34 #[.slice (some ⟨g, 0, none⟩) 2 c, .string ⟨#[]⟩, .slice (some ⟨s, 0, none⟩) 1 1] V fun e w' => e = .returned (.tuple #[.agg #[.string ⟨#[]⟩, .string ⟨#[]⟩, .int .i64 0, .bool false, .string ⟨#[]⟩, .slice none 0 0], .int .i64 0, .int .i64 112]) ∧ Below V.heap.size V w' := by
  have HO1 := Lib.hid (fun (W : World) (h : Kd.C k68 W (some ⟨s, 0, none⟩) 1 liveP1) => show Calls Tryz.prog 69 #[.slice (some ⟨s, 0, none⟩) 1 1, .string ⟨#[99, 108, 105, 101, 110, 116, 95, 105, 100]⟩] W (fun e w' => e = .returned (.tuple #[.string ⟨#[98, 111, 120]⟩, .bool true, .int .i64 0]) ∧ Below W.heap.size W w') from urlform_One.calls 400 (some ⟨s, 0, none⟩) 1 liveP1 ⟨#[99, 108, 105, 101, 110, 116, 95, 105, 100]⟩ _ _ _ W h (Nat.le_refl _) (by kernel_rfl))
  have HO2 := Lib.hid (fun (W : World) (h : Kd.C k68 W (some ⟨s, 0, none⟩) 1 liveP1) => show Calls Tryz.prog 69 #[.slice (some ⟨s, 0, none⟩) 1 1, .string ⟨#[99, 108, 105, 101, 110, 116, 95, 115, 101, 99, 114, 101, 116]⟩] W (fun e w' => e = .returned (.tuple #[.string ⟨#[]⟩, .bool false, .int .i64 0]) ∧ Below W.heap.size W w') from urlform_One.calls 400 (some ⟨s, 0, none⟩) 1 liveP1 ⟨#[99, 108, 105, 101, 110, 116, 95, 115, 101, 99, 114, 101, 116]⟩ _ _ _ W h (Nat.le_refl _) (by kernel_rfl))
  have HF := Lib.hid (fun (W : World) (h : Kd.C k40 W (some ⟨g, 0, none⟩) 2 liveL) => show Calls Tryz.prog 29 #[.slice (some ⟨g, 0, none⟩) 2 c, .string ⟨#[98, 111, 120]⟩] W (fun e w' => ∃ (g2 c5 : Nat) (cs : Array Value), e = .returned (.tuple #[.agg #[.string ⟨#[98, 111, 120]⟩, .string ⟨#[115]⟩, .int .i64 2, .bool false, .string ⟨#[]⟩, .slice (some ⟨g2, 0, none⟩) 1 c5], .bool true]) ∧ 1 ≤ c5 ∧ W.heap.size ≤ g2 ∧ w'.heap[g2]? = some (.cells cs 9 (0, 0)) ∧ cs[0]? = some (.string ⟨#[112, 97, 121]⟩) ∧ Below W.heap.size W w') from by
    refine (client_Find.calls 400 (some ⟨g, 0, none⟩) c liveL ⟨#[98, 111, 120]⟩ ⟨#[98, 111, 120]⟩ ⟨#[115]⟩ 2 false ⟨#[]⟩ [⟨#[112, 97, 121]⟩] true W h h3 (by kernel_rfl)).mono ?_
    rintro e w' ⟨v5, rfl, hR, hb⟩
    obtain ⟨g2, c5, rfl, hg2, _, cs, hcs⟩ := Kd.R_form hR (by decide)
    obtain ⟨_, hl, hC⟩ := Kd.R_reads' hR
    obtain ⟨ad, cc, hA, _, hK, hcell⟩ := Kd.C_get hC (⟨#[]⟩ : ByteArray) 0 (by omega) (by decide)
    obtain rfl : (⟨g2, 0, none⟩ : Addr) = ad := Option.some.inj hA
    have hK' : cc = [.string ⟨#[112, 97, 121]⟩] := hK
    subst hK'
    exact ⟨g2, c5, cs, rfl, hl, hg2, hcs, (blk_cell hcs 0).symm.trans (hcell 0 _ rfl), hb⟩)
  go_enter Tryz.func34, Tryz.ntmps34
  go_upto_region 1 with ((with_reducible refine gate_dst (N := 6) rfl ?_); refine box_event ?hg (N := 6) ?hd (cs := #[.string ⟨#[]⟩, .string ⟨#[]⟩, .int .i64 0, .bool false, .string ⟨#[]⟩, .slice none 0 0]) (t := 40) ?hr ?_; (case hd => rfl); (case hg => rfl); (case hr => first | (go_simp; done) | (go_simp; rfl)); intro q hg w_q hbox hb; have BQ := Lib.hid hbox; have GE := Lib.hid ((by rw [hg]; exact Nat.le_refl _) : V.heap.size ≤ q); have HB := Lib.hid hb; have HC := Lib.hid (Kd.C_below h1 hb); have HD := Lib.hid (Kd.C_below h2 hb); clear hbox hg hb h1 h2)
  go_wp2_with (first | (go_at_call 69; (with_reducible refine (HO1.out _ HD.out).mono ?_); rintro e w1 ⟨rfl, hb⟩; have n1_ := Lib.hid (below_step HB.out hb); have n2_ := Lib.hid (blk_below BQ.out hb); have n3_ := Lib.hid (Kd.C_below HC.out hb); have n4_ := Lib.hid (Kd.C_below HD.out hb); clear HB BQ HC HD; have HB := n1_; have BQ := n2_; have HC := n3_; have HD := n4_; clear n1_ n2_ n3_ n4_ hb) | (go_at_call 69; (with_reducible refine (HO2.out _ HD.out).mono ?_); rintro e w2 ⟨rfl, hb⟩; have n1_ := Lib.hid (below_step HB.out hb); have n2_ := Lib.hid (blk_below BQ.out hb); have n3_ := Lib.hid (Kd.C_below HC.out hb); have n4_ := Lib.hid (Kd.C_below HD.out hb); clear HB BQ HC HD; have HB := n1_; have BQ := n2_; have HC := n3_; have HD := n4_; clear n1_ n2_ n3_ n4_ hb) | (go_at_call 29; (with_reducible refine (HF.out _ HC.out).mono ?_); rintro e w3 ⟨g2, c5, cs, rfl, hc5, hg2, hcs, h0, hb⟩; have NE := Lib.hid ((by have := blk_lt BQ.out; omega) : g2 ≠ q); have H5 := Lib.hid hc5; have H0 := Lib.hid h0; have BF := Lib.hid hcs; clear hc5 hg2 hcs h0; have n1_ := Lib.hid (below_step HB.out hb); have n2_ := Lib.hid (blk_below BQ.out hb); have n3_ := Lib.hid (Kd.C_below HC.out hb); have n4_ := Lib.hid (Kd.C_below HD.out hb); clear HB BQ HC HD; have HB := n1_; have BQ := n2_; have HC := n3_; have HD := n4_; clear n1_ n2_ n3_ n4_ hb) | (go_at_call 70; (with_reducible refine (proven_no _ _ _).mono ?_); rintro e w4 ⟨rfl, hb⟩; have n1_ := Lib.hid (below_step (below_alloc HB.out _) hb); have n2_ := Lib.hid (blk_below (blk_alloc BQ.out _) hb); have n5_ := Lib.hid (blk_below (blk_alloc BF.out _) hb); clear HB BQ BF HC HD hb; have HB := n1_; have BQ := n2_; have BF := n5_; clear n1_ n2_ n5_; have c60 := (blk_cell BQ.out 0).trans rfl; have f60 := blk_frozen BQ.out 0; have c61 := (blk_cell BQ.out 1).trans rfl; have f61 := blk_frozen BQ.out 1; have c62 := (blk_cell BQ.out 2).trans rfl; have f62 := blk_frozen BQ.out 2; have c63 := (blk_cell BQ.out 3).trans rfl; have f63 := blk_frozen BQ.out 3; have c64 := (blk_cell BQ.out 4).trans rfl; have f64 := blk_frozen BQ.out 4; have c65 := (blk_cell BQ.out 5).trans rfl; have f65 := blk_frozen BQ.out 5))
  refine bodyPost_ret (results_ctt rfl _ _ q 40 #[.string ⟨#[]⟩, .string ⟨#[]⟩, .int .i64 0, .bool false, .string ⟨#[]⟩, .slice none 0 0] (0, 0) _ rfl (put_six BQ.out _ _ _ _ _ _) Tryz.underlying40 rfl (by kernel_rfl)) rfl ?_
  exact ⟨rfl, below_six HB.out GE.out _ _ _ _ _ _⟩
end Go.Proofs.YtmimipgmhgalaaaGreatDoor.PAll
end
section
namespace Go.Proofs.YtmimipgmhgalaaaGreatDoor.PAll
open Go.RowKit Go.Proofs.YtmimipgmhgalaaaGreatDoorW.PrintWords Go.Proofs.YtmimipgmhgalaaaGreatDoorW.PrintLast Go.Proofs.YtmimipgmhgalaaaGreatDoorW.PrintMore
set_option linter.unusedVariables false
set_option linter.unusedSimpArgs false
def meantS (l5 : List ByteArray) (a1 : ByteArray) (l : List ByteArray) : List ByteArray := if a1 = ⟨#[]⟩ then l5 else l
def client_Scope.f (k : Nat) (a0_0 a0_1 : ByteArray) (a0_2 : Int) (a0_3 : Bool) (a0_4 : ByteArray) (l0_5 : List ByteArray) (a1 : ByteArray) : Option (ByteArray × Int) :=
  (urlform_Scopes.f k a1).bind fun t => if t.2 = 0 then ((urlform_Within.f k (meantS l0_5 a1 t.1) l0_5).bind fun b => if b = true then ((strings_Join.f (meantS l0_5 a1 t.1) ⟨#[32]⟩).bind fun s => some (s, 0)) else some (⟨#[]⟩, 114)) else some (⟨#[]⟩, 114)
theorem emptyS_no {a : ByteArray} (h : ¬a = ⟨#[]⟩) : (a.toList == ([] : List UInt8)) = false := by
  refine beq_eq_false_iff_ne.mpr fun h1 => h ?_
  obtain ⟨⟨l⟩⟩ := a
  rw [Lib.toList_data] at h1
  exact congrArg (fun l => (⟨⟨l⟩⟩ : ByteArray)) h1
set_option maxRecDepth 100000 in
set_option maxHeartbeats 1000000 in
theorem client_Scope.calls (k : Nat) (a0_0 a0_1 : ByteArray) (a0_2 : Int) (a0_3 : Bool) (a0_4 : ByteArray) (A0_5 : Option Addr) (c0_5 : Nat) (l0_5 : List ByteArray) (a1 : ByteArray) (r1 : ByteArray) (r2 : Int) (w : World) (hr0_5 : Kd.C Kd.string w A0_5 l0_5.length l0_5) (hc0_5 : l0_5.length ≤ c0_5)
    (h : client_Scope.f k a0_0 a0_1 a0_2 a0_3 a0_4 l0_5 a1 = some (r1, r2)) :
    Calls Tryz.prog 37 #[.agg #[.string a0_0, .string a0_1, .int .i64 a0_2, .bool a0_3, .string a0_4, .slice A0_5 l0_5.length c0_5], .string a1] w fun e w' => e = .returned (.tuple #[.string r1, .int .i64 r2]) ∧ Below w.heap.size w w' := by
  unfold client_Scope.f at h
  obtain ⟨⟨ls, e⟩, hs, h⟩ := Option.bind_eq_some_iff.1 h
  obtain ⟨n5, hn5⟩ : ∃ n, n = l0_5.length := ⟨_, rfl⟩
  have HS := Lib.hid hs
  have hsc : ∀ V : World, Calls Tryz.prog 54 #[.string a1] V fun e' w' => ∃ (A' : Option Addr) (c' n' : Nat), e' = .returned (.tuple #[.slice A' n' c', .int .i64 e]) ∧ n' = ls.length ∧ n' ≤ c' ∧ Kd.C Kd.string w' A' ls.length ls ∧ Below V.heap.size V w' := fun V => by
    refine (urlform_Scopes.calls k a1 ls e V HS.out).mono fun e' w' ⟨v, he, hR, hb⟩ => ?_
    obtain ⟨A', c', hv, hl, hC⟩ := Kd.R_reads hR
    subst hv
    exact ⟨A', c', _, he, rfl, hl, hC, hb⟩
  have HSC := Lib.hid hsc
  clear hs hsc
  by_cases he : e = 0
  · subst he
    have h1 : (urlform_Within.f k (meantS l0_5 a1 ls) l0_5).bind (fun b => if b = true then ((strings_Join.f (meantS l0_5 a1 ls) ⟨#[32]⟩).bind fun s => some (s, 0)) else some (⟨#[]⟩, 114)) = some (r1, r2) := h
    obtain ⟨b, hb, h2⟩ := Option.bind_eq_some_iff.1 h1
    have hwi : ∀ (V : World) (A' : Option Addr) (c' n' : Nat), n' = (meantS l0_5 a1 ls).length → n' ≤ c' → Kd.C Kd.string V A' (meantS l0_5 a1 ls).length (meantS l0_5 a1 ls) → Below w.heap.size w V → Calls Tryz.prog 72 #[.slice A' n' c', .slice A0_5 n5 c0_5] V fun e' w' => e' = .returned (.bool b) ∧ Below V.heap.size V w' := fun V A' c' n' h3 h4 h5 h6 => by
      subst h3
      rw [hn5]
      exact (urlform_Within.calls k A' c' _ A0_5 c0_5 l0_5 b V h5 h4 (Kd.C_below hr0_5 h6) hc0_5 hb).mono fun e' w' ⟨h7, h8⟩ => ⟨h7, h8.below⟩
    have HWI := Lib.hid hwi
    rw [← hn5]
    by_cases ha : a1 = ⟨#[]⟩
    · have hm : meantS l0_5 a1 ls = l0_5 := if_pos ha
      rw [hm] at h2 HWI
      subst ha
      have HN5 := Lib.hid hn5; have HR := Lib.hid hr0_5; have HC := Lib.hid hc0_5
      have hc5 := Lib.hid (show n5 ≤ c0_5 by rw [hn5]; exact hc0_5)
      clear hn5 hr0_5 hc0_5 hm h h1 hwi hb
      cases b with
      | true =>
        obtain ⟨s, hs, h3⟩ := Option.bind_eq_some_iff.1 (show (strings_Join.f l0_5 ⟨#[32]⟩).bind (fun s => some (s, (0 : Int))) = some (r1, r2) from h2)
        obtain ⟨rfl, rfl⟩ := Prod.mk.inj (Option.some.inj h3)
        have HJ := Lib.hid (fun (V : World) (h5 : Kd.C Kd.string V A0_5 l0_5.length l0_5) => show Calls Tryz.prog 55 #[.slice A0_5 n5 c0_5, .string ⟨#[32]⟩] V (fun e w' => e = .returned (.string s) ∧ Below V.heap.size V w') by rw [HN5.out]; exact strings_Join.calls A0_5 c0_5 l0_5 ⟨#[32]⟩ s V h5 HC.out hs)
        clear h2 h3 hs
        go_enter Tryz.func37, Tryz.ntmps37
        go_wp2_with (first | ((with_reducible refine gate_dst (N := 2) rfl ?_); refine box_event ?hg (N := 2) ?hd (cs := #[.string a0_0, .string a0_1, .int .i64 a0_2, .bool a0_3, .string a0_4, .slice A0_5 n5 c0_5]) (t := 40) ?hr ?_; (case hd => rfl); (case hg => rfl); (case hr => first | (go_simp; done) | (go_simp; rfl)); intro gb hg w3 hbox hb; have GW := Lib.hid ((by rw [hg]; exact Nat.le_refl _) : w.heap.size ≤ gb); have HX := Lib.hid hbox; have HB := Lib.hid hb; clear hg hbox hb))
        refine (HSC.out _).mono ?_
        rintro e1 w4 ⟨A1, c1, n1, rfl, hn1, hl1, hC1, hb1⟩
        have BK := Lib.hid (blk_below (g := gb) (o := .cells #[.string a0_0, .string a0_1, .int .i64 a0_2, .bool a0_3, .string a0_4, .slice A0_5 n5 c0_5] 40 (0, 0)) HX.out hb1)
        have HB2 := Lib.hid (below_step HB.out hb1)
        have hcz := (blk_cell BK.out 5).trans rfl
        have hfz := blk_frozen BK.out 5
        have HN := Lib.hid hn1; have HL := Lib.hid hl1; have HC1 := Lib.hid hC1
        clear hn1 hl1 hC1 hb1 HX HB
        go_wp2_with (first | (go_at_call 72; (with_reducible refine (HWI.out _ _ _ _ HN5.out hc5.out (Kd.C_below HR.out HB2.out) HB2.out).mono ?_); rintro e2 w5 ⟨rfl, hb2⟩; have HB9 := Lib.hid (below_step HB2.out hb2); have HB5 := Lib.hid hb2; clear hb2) | (go_at_call 55; (with_reducible refine (HJ.out _ (Kd.C_below HR.out HB9.out)).mono ?_); rintro e3 w6 ⟨rfl, hb3⟩; have HB8 := HB9; clear HB9; have HB9 := Lib.hid (below_step HB8.out hb3); clear hb3))
        go_ret2
        exact ⟨by first | rfl | (simp [*]; done), by repeat (first | (with_reducible first | exact HB9.out | apply below_alloc | apply pw_below_drewN | apply below_drew1) | exact HB9.out)⟩
      | false =>
        obtain ⟨rfl, rfl⟩ := Prod.mk.inj (Option.some.inj (show some ((⟨#[]⟩ : ByteArray), (114 : Int)) = some (r1, r2) from h2))
        clear h2
        go_enter Tryz.func37, Tryz.ntmps37
        go_wp2_with (first | ((with_reducible refine gate_dst (N := 2) rfl ?_); refine box_event ?hg (N := 2) ?hd (cs := #[.string a0_0, .string a0_1, .int .i64 a0_2, .bool a0_3, .string a0_4, .slice A0_5 n5 c0_5]) (t := 40) ?hr ?_; (case hd => rfl); (case hg => rfl); (case hr => first | (go_simp; done) | (go_simp; rfl)); intro gb hg w3 hbox hb; have GW := Lib.hid ((by rw [hg]; exact Nat.le_refl _) : w.heap.size ≤ gb); have HX := Lib.hid hbox; have HB := Lib.hid hb; clear hg hbox hb))
        refine (HSC.out _).mono ?_
        rintro e1 w4 ⟨A1, c1, n1, rfl, hn1, hl1, hC1, hb1⟩
        have BK := Lib.hid (blk_below (g := gb) (o := .cells #[.string a0_0, .string a0_1, .int .i64 a0_2, .bool a0_3, .string a0_4, .slice A0_5 n5 c0_5] 40 (0, 0)) HX.out hb1)
        have HB2 := Lib.hid (below_step HB.out hb1)
        have hcz := (blk_cell BK.out 5).trans rfl
        have hfz := blk_frozen BK.out 5
        have HN := Lib.hid hn1; have HL := Lib.hid hl1; have HC1 := Lib.hid hC1
        clear hn1 hl1 hC1 hb1 HX HB
        go_wp2_with (first | (go_at_call 72; (with_reducible refine (HWI.out _ _ _ _ HN5.out hc5.out (Kd.C_below HR.out HB2.out) HB2.out).mono ?_); rintro e2 w5 ⟨rfl, hb2⟩; have HB9 := Lib.hid (below_step HB2.out hb2); have HB5 := Lib.hid hb2; clear hb2))
        go_ret2
        exact ⟨by first | rfl | (simp [*]; done), by repeat (first | (with_reducible first | exact HB9.out | apply below_alloc | apply pw_below_drewN | apply below_drew1) | exact HB9.out)⟩
    · have hm : meantS l0_5 a1 ls = ls := if_neg ha
      rw [hm] at h2 HWI
      have hne : (a1.toList == ([] : List UInt8)) = false := emptyS_no ha
      have HN5 := Lib.hid hn5; have HR := Lib.hid hr0_5; have HC := Lib.hid hc0_5
      clear hn5 hr0_5 hc0_5 hm h h1 hwi hb
      cases b with
      | true =>
        obtain ⟨s, hs, h3⟩ := Option.bind_eq_some_iff.1 (show (strings_Join.f ls ⟨#[32]⟩).bind (fun s => some (s, (0 : Int))) = some (r1, r2) from h2)
        obtain ⟨rfl, rfl⟩ := Prod.mk.inj (Option.some.inj h3)
        have HJ := Lib.hid (fun (V : World) (A' : Option Addr) (c' n' : Nat) (h3 : n' = ls.length) (h4 : n' ≤ c') (h5 : Kd.C Kd.string V A' ls.length ls) => show Calls Tryz.prog 55 #[.slice A' n' c', .string ⟨#[32]⟩] V (fun e w' => e = .returned (.string s) ∧ Below V.heap.size V w') by subst h3; exact strings_Join.calls A' c' ls ⟨#[32]⟩ s V h5 h4 hs)
        clear h2 h3 hs
        go_enter Tryz.func37, Tryz.ntmps37
        go_wp2_with (first | ((with_reducible refine gate_dst (N := 2) rfl ?_); refine box_event ?hg (N := 2) ?hd (cs := #[.string a0_0, .string a0_1, .int .i64 a0_2, .bool a0_3, .string a0_4, .slice A0_5 n5 c0_5]) (t := 40) ?hr ?_; (case hd => rfl); (case hg => rfl); (case hr => first | (go_simp; done) | (go_simp; rfl)); intro gb hg w3 hbox hb; have GW := Lib.hid ((by rw [hg]; exact Nat.le_refl _) : w.heap.size ≤ gb); have HX := Lib.hid hbox; have HB := Lib.hid hb; clear hg hbox hb))
        refine (HSC.out _).mono ?_
        rintro e1 w4 ⟨A1, c1, n1, rfl, hn1, hl1, hC1, hb1⟩
        have BK := Lib.hid (blk_below (g := gb) (o := .cells #[.string a0_0, .string a0_1, .int .i64 a0_2, .bool a0_3, .string a0_4, .slice A0_5 n5 c0_5] 40 (0, 0)) HX.out hb1)
        have HB2 := Lib.hid (below_step HB.out hb1)
        have hcz := (blk_cell BK.out 5).trans rfl
        have hfz := blk_frozen BK.out 5
        have HN := Lib.hid hn1; have HL := Lib.hid hl1; have HC1 := Lib.hid hC1
        clear hn1 hl1 hC1 hb1 HX HB
        go_wp2_with (first | (go_at_call 72; (with_reducible refine (HWI.out _ _ _ _ HN.out HL.out HC1.out HB2.out).mono ?_); rintro e2 w5 ⟨rfl, hb2⟩; have HB9 := Lib.hid (below_step HB2.out hb2); have HB5 := Lib.hid hb2; clear hb2) | (go_at_call 55; (with_reducible refine (HJ.out _ _ _ _ HN.out HL.out (Kd.C_below HC1.out HB5.out)).mono ?_); rintro e3 w6 ⟨rfl, hb3⟩; have HB8 := HB9; clear HB9; have HB9 := Lib.hid (below_step HB8.out hb3); clear hb3))
        go_ret2
        exact ⟨by first | rfl | (simp [*]; done), by repeat (first | (with_reducible first | exact HB9.out | apply below_alloc | apply pw_below_drewN | apply below_drew1) | exact HB9.out)⟩
      | false =>
        obtain ⟨rfl, rfl⟩ := Prod.mk.inj (Option.some.inj (show some ((⟨#[]⟩ : ByteArray), (114 : Int)) = some (r1, r2) from h2))
        clear h2
        go_enter Tryz.func37, Tryz.ntmps37
        go_wp2_with (first | ((with_reducible refine gate_dst (N := 2) rfl ?_); refine box_event ?hg (N := 2) ?hd (cs := #[.string a0_0, .string a0_1, .int .i64 a0_2, .bool a0_3, .string a0_4, .slice A0_5 n5 c0_5]) (t := 40) ?hr ?_; (case hd => rfl); (case hg => rfl); (case hr => first | (go_simp; done) | (go_simp; rfl)); intro gb hg w3 hbox hb; have GW := Lib.hid ((by rw [hg]; exact Nat.le_refl _) : w.heap.size ≤ gb); have HX := Lib.hid hbox; have HB := Lib.hid hb; clear hg hbox hb))
        refine (HSC.out _).mono ?_
        rintro e1 w4 ⟨A1, c1, n1, rfl, hn1, hl1, hC1, hb1⟩
        have BK := Lib.hid (blk_below (g := gb) (o := .cells #[.string a0_0, .string a0_1, .int .i64 a0_2, .bool a0_3, .string a0_4, .slice A0_5 n5 c0_5] 40 (0, 0)) HX.out hb1)
        have HB2 := Lib.hid (below_step HB.out hb1)
        have hcz := (blk_cell BK.out 5).trans rfl
        have hfz := blk_frozen BK.out 5
        have HN := Lib.hid hn1; have HL := Lib.hid hl1; have HC1 := Lib.hid hC1
        clear hn1 hl1 hC1 hb1 HX HB
        go_wp2_with (first | (go_at_call 72; (with_reducible refine (HWI.out _ _ _ _ HN.out HL.out HC1.out HB2.out).mono ?_); rintro e2 w5 ⟨rfl, hb2⟩; have HB9 := Lib.hid (below_step HB2.out hb2); have HB5 := Lib.hid hb2; clear hb2))
        go_ret2
        exact ⟨by first | rfl | (simp [*]; done), by repeat (first | (with_reducible first | exact HB9.out | apply below_alloc | apply pw_below_drewN | apply below_drew1) | exact HB9.out)⟩
  · obtain ⟨rfl, rfl⟩ := Prod.mk.inj (Option.some.inj (show some ((⟨#[]⟩ : ByteArray), (114 : Int)) = some (r1, r2) from by rw [← h]; exact (if_neg he).symm))
    have he1 : decide (e = 0) = false := decide_eq_false he
    have HN5 := Lib.hid hn5; have HR := Lib.hid hr0_5; have HC := Lib.hid hc0_5
    rw [← hn5]
    clear h hn5 hr0_5 hc0_5
    by_cases ha : a1 = ⟨#[]⟩
    · subst ha
      go_enter Tryz.func37, Tryz.ntmps37
      go_wp2_with (first | ((with_reducible refine gate_dst (N := 2) rfl ?_); refine box_event ?hg (N := 2) ?hd (cs := #[.string a0_0, .string a0_1, .int .i64 a0_2, .bool a0_3, .string a0_4, .slice A0_5 n5 c0_5]) (t := 40) ?hr ?_; (case hd => rfl); (case hg => rfl); (case hr => first | (go_simp; done) | (go_simp; rfl)); intro gb hg w3 hbox hb; have GW := Lib.hid ((by rw [hg]; exact Nat.le_refl _) : w.heap.size ≤ gb); have HX := Lib.hid hbox; have HB := Lib.hid hb; clear hg hbox hb))
      refine (HSC.out _).mono ?_
      rintro e1 w4 ⟨A1, c1, n1, rfl, hn1, hl1, hC1, hb1⟩
      have BK := Lib.hid (blk_below (g := gb) (o := .cells #[.string a0_0, .string a0_1, .int .i64 a0_2, .bool a0_3, .string a0_4, .slice A0_5 n5 c0_5] 40 (0, 0)) HX.out hb1)
      have HB2 := Lib.hid (below_step HB.out hb1)
      have hcz := (blk_cell BK.out 5).trans rfl
      have hfz := blk_frozen BK.out 5
      have HN := Lib.hid hn1; have HL := Lib.hid hl1; have HC1 := Lib.hid hC1
      clear hn1 hl1 hC1 hb1 HX HB
      have HB9 := HB2
      go_wp2
      go_ret2
      exact ⟨by first | rfl | (simp [*]; done), by repeat (first | (with_reducible first | exact HB9.out | apply below_alloc | apply pw_below_drewN | apply below_drew1) | exact HB9.out)⟩
    · have hne : (a1.toList == ([] : List UInt8)) = false := emptyS_no ha
      go_enter Tryz.func37, Tryz.ntmps37
      go_wp2_with (first | ((with_reducible refine gate_dst (N := 2) rfl ?_); refine box_event ?hg (N := 2) ?hd (cs := #[.string a0_0, .string a0_1, .int .i64 a0_2, .bool a0_3, .string a0_4, .slice A0_5 n5 c0_5]) (t := 40) ?hr ?_; (case hd => rfl); (case hg => rfl); (case hr => first | (go_simp; done) | (go_simp; rfl)); intro gb hg w3 hbox hb; have GW := Lib.hid ((by rw [hg]; exact Nat.le_refl _) : w.heap.size ≤ gb); have HX := Lib.hid hbox; have HB := Lib.hid hb; clear hg hbox hb))
      refine (HSC.out _).mono ?_
      rintro e1 w4 ⟨A1, c1, n1, rfl, hn1, hl1, hC1, hb1⟩
      have BK := Lib.hid (blk_below (g := gb) (o := .cells #[.string a0_0, .string a0_1, .int .i64 a0_2, .bool a0_3, .string a0_4, .slice A0_5 n5 c0_5] 40 (0, 0)) HX.out hb1)
      have HB2 := Lib.hid (below_step HB.out hb1)
      have hcz := (blk_cell BK.out 5).trans rfl
      have hfz := blk_frozen BK.out 5
      have HN := Lib.hid hn1; have HL := Lib.hid hl1; have HC1 := Lib.hid hC1
      clear hn1 hl1 hC1 hb1 HX HB
      have HB9 := HB2
      go_wp2
      go_ret2
      exact ⟨by first | rfl | (simp [*]; done), by repeat (first | (with_reducible first | exact HB9.out | apply below_alloc | apply pw_below_drewN | apply below_drew1) | exact HB9.out)⟩
end Go.Proofs.YtmimipgmhgalaaaGreatDoor.PAll
end
section
namespace Go.Proofs.YtmimipgmhgalaaaGreatDoor.PAll
open Go.RowKit Go.Proofs.YtmimipgmhgalaaaGreatDoorW.PrintWords Go.Proofs.YtmimipgmhgalaaaGreatDoorW.PrintLast Go.Proofs.YtmimipgmhgalaaaGreatDoorW.PrintMore
set_option linter.unusedVariables false
set_option linter.unusedSimpArgs false
abbrev liveText : ByteArray := ⟨#[105, 100, 61, 98, 111, 120, 38, 115, 101, 99, 114, 101, 116, 61, 115, 38, 103, 114, 97, 110, 116, 115, 61, 99, 105, 98, 97, 38, 115, 99, 111, 112, 101, 61, 112, 97, 121, 10, 105, 100, 61, 116, 118, 38, 103, 114, 97, 110, 116, 115, 61, 100, 101, 118, 105, 99, 101, 10]⟩
theorem live_parse : client_Parse.f 400 liveText = some (liveL, 0, 0) := by kernel_rfl
theorem live_scope : client_Scope.f 400 ⟨#[98, 111, 120]⟩ ⟨#[115]⟩ 2 false ⟨#[]⟩ [⟨#[112, 97, 121]⟩] ⟨#[]⟩ = some (⟨#[112, 97, 121]⟩, 0) := by kernel_rfl
theorem c68_one {w : World} {g : Nat} {t : TypeId} {x : S68} (h : w.heap[g]? = some (.cells #[.string x.f0, .string x.f1] t (0, 0))) : Kd.C k68 w (some ⟨g, 0, none⟩) 1 [x] := by
  refine ⟨rfl, by omega, fun _ => ⟨_, rfl, fun j p hj => ?_⟩⟩
  rcases j with _ | j
  · obtain rfl : x = p := Option.some.inj hj
    refine ⟨_, rfl, k68_mk w x, fun i u hu => ?_⟩
    rw [← hu]
    rcases i with _ | _ | i
    · exact blk_cell h 0
    · exact blk_cell h 1
    · cases hu
  · cases hj
theorem c68_two {w : World} {g : Nat} {t : TypeId} {x y : S68} (h : w.heap[g]? = some (.cells #[.string x.f0, .string x.f1, .string y.f0, .string y.f1] t (0, 0))) : Kd.C k68 w (some ⟨g, 0, none⟩) 2 [x, y] := by
  refine ⟨rfl, by omega, fun _ => ⟨_, rfl, fun j p hj => ?_⟩⟩
  rcases j with _ | _ | j
  · obtain rfl : x = p := Option.some.inj hj
    refine ⟨_, rfl, k68_mk w x, fun i u hu => ?_⟩
    rw [← hu]
    rcases i with _ | _ | i
    · exact blk_cell h 0
    · exact blk_cell h 1
    · cases hu
  · obtain rfl : y = p := Option.some.inj hj
    refine ⟨_, rfl, k68_mk w y, fun i u hu => ?_⟩
    rw [← hu]
    rcases i with _ | _ | i
    · exact blk_cell h 2
    · exact blk_cell h 3
    · cases hu
  · cases hj
def wicketlaw11_live.f : Option Bool := some true
theorem live_num (a0 : Int) (w : World) : Calls Tryz.prog 19 #[.int .i64 a0] w fun e w' => e = .returned (.int .i64 a0) ∧ Drawn0 w w' := by
  go_enter Tryz.func19, Tryz.ntmps19
  go_wp2
  go_ret
  exact ⟨rfl, by repeat (first | exact Drawn0.refl _ | apply Drawn0.step)⟩
theorem blk_new2 (w : World) (o o' : Obj) : ((w.alloc o).alloc o').heap[w.heap.size + 1]? = some o' := by
  have h := blk_new (w.alloc o) o'
  rwa [show (w.alloc o).heap.size = w.heap.size + 1 from Array.size_push _] at h
set_option maxRecDepth 100000 in
set_option maxHeartbeats 1000000 in
theorem wicketlaw11_live.calls (r : Bool) (w : World) (h : wicketlaw11_live.f = some r) : Calls Tryz.prog 21 #[] w fun e w' => e = .returned (.bool r) ∧ Below w.heap.size w w' := by
  obtain rfl : true = r := Option.some.inj h
  clear h
  have HA2 := Lib.hid auth_yes
  have HA1 := Lib.hid auth_no
  have HSC := Lib.hid (fun (V : World) (A : Option Addr) (c : Nat) (h1 : Kd.C Kd.string V A 1 [⟨#[112, 97, 121]⟩]) (h2 : 1 ≤ c) => show Calls Tryz.prog 37 #[.agg #[.string ⟨#[98, 111, 120]⟩, .string ⟨#[115]⟩, .int .i64 2, .bool false, .string ⟨#[]⟩, .slice A 1 c], .string ⟨#[]⟩] V (fun e w' => e = .returned (.tuple #[.string ⟨#[112, 97, 121]⟩, .int .i64 0]) ∧ Below V.heap.size V w') from
    client_Scope.calls 400 ⟨#[98, 111, 120]⟩ ⟨#[115]⟩ 2 false ⟨#[]⟩ A c [⟨#[112, 97, 121]⟩] ⟨#[]⟩ _ _ V h1 h2 live_scope)
  go_enter Tryz.func21, Tryz.ntmps21
  go_wp2_with (fail)
  refine (client_Parse.calls 400 liveText liveL 0 0 _ live_parse).mono ?_
  rintro e w1 ⟨v0, rfl, hS, hb⟩
  obtain ⟨g, c, rfl, hg, _, cs1, hcs⟩ := Kd.S_form hS (by decide)
  obtain ⟨_, hc, hC⟩ := Kd.S_reads' hS
  clear hS
  have HL := Lib.hid (show (2 : Nat) ≤ c from hc)
  have HC := Lib.hid (show Kd.C k40 w1 (some ⟨g, 0, none⟩) 2 liveL from hC)
  have HB := Lib.hid hb
  obtain ⟨ad, A5, c5, hA, _, h01, _⟩ := at_T40 HC.out 0 (by omega) (by omega)
  obtain ⟨ad', A6, c6, hA', _, _, h12, _⟩ := at_T40 HC.out 1 (by omega) (by omega)
  obtain rfl : (⟨g, 0, none⟩ : Addr) = ad := Option.some.inj hA
  obtain rfl : (⟨g, 0, none⟩ : Addr) = ad' := Option.some.inj hA'
  replace h01 : w1.cell? ⟨g, 1, none⟩ = some (.string ⟨#[115]⟩) := h01
  replace h12 : w1.cell? ⟨g, 8, none⟩ = some (.int .i64 1) := h12
  have hf1 := blk_frozen hcs 1
  have hf8 := blk_frozen hcs 8
  have HX := Lib.hid hcs
  clear hA hA' hb hC hc hcs hg
  rw [show liveL.length = 2 from rfl]
  go_wp2_with (go_at_call 19; (with_reducible refine (live_num 0 _).mono ?_); rintro e w2 ⟨rfl, ⟨nd, rfl⟩⟩)
  refine (HA2.out _ _ _ _ (Kd.C_alloc (Kd.C_drewN HC.out nd) _) (c68_two (x := ⟨_, _⟩) (y := ⟨_, _⟩) (blk_new (w1.drewN nd) _)) HL.out).mono ?_
  rintro e w3 ⟨A3, c3, rfl, hc3, hC3, hb3⟩
  have HB3 := Lib.hid (below_step (below_alloc (pw_below_drewN HB.out nd) _) hb3)
  have HC3 := Lib.hid (Kd.C_below (Kd.C_alloc (Kd.C_drewN HC.out nd) _) hb3)
  have HS3 := Lib.hid hC3
  have HL3 := Lib.hid hc3
  clear hc3 hC3 hb3 HB HC h01 h12 hf1 hf8 HX
  go_wp2_with (fail)
  refine (HA1.out _ _ _ _ (Kd.C_alloc (Kd.C_alloc HC3.out _) _) (c68_one (x := ⟨_, _⟩) (blk_new2 w3 _ _)) HL.out).mono ?_
  rintro e w5 ⟨rfl, hb5⟩
  have BK := Lib.hid (blk_below (blk_alloc (blk_new w3 _) _) hb5)
  have HB5 := Lib.hid (below_step (below_alloc (below_alloc HB3.out _) _) hb5)
  have HS5 := Lib.hid (Kd.C_below (Kd.C_alloc (Kd.C_alloc HS3.out _) _) hb5)
  obtain ⟨p, hp⟩ : ∃ p, p = w3.heap.size := ⟨_, rfl⟩
  rw [← hp] at BK ⊢
  clear hb5 HB3 HC3 HS3 hp
  go_upto_region 6 with (fail)
  have BK6 := Lib.hid (blk_alloc BK.out (Obj.cells #[.string ⟨#[]⟩, .string ⟨#[]⟩, .int .i64 0, .bool false, .string ⟨#[]⟩, .slice none 0 0] 40))
  have HB6 := Lib.hid (below_alloc HB5.out (Obj.cells #[.string ⟨#[]⟩, .string ⟨#[]⟩, .int .i64 0, .bool false, .string ⟨#[]⟩, .slice none 0 0] 40))
  have HS6 := Lib.hid (Kd.C_alloc HS5.out (Obj.cells #[.string ⟨#[]⟩, .string ⟨#[]⟩, .int .i64 0, .bool false, .string ⟨#[]⟩, .slice none 0 0] 40))
  clear BK HB5 HS5
  obtain ⟨q, hq⟩ : ∃ q, q = w5.heap.size := ⟨_, rfl⟩
  rw [← hq]
  generalize hW : w5.alloc (Obj.cells #[.string ⟨#[]⟩, .string ⟨#[]⟩, .int .i64 0, .bool false, .string ⟨#[]⟩, .slice none 0 0] 40) = w6
  rw [hW] at BK6 HB6 HS6
  clear hW hq
  have h50 := blk_cell BK6.out 0
  have h51 := blk_cell BK6.out 1
  have h52 := blk_cell BK6.out 2
  have h53 := blk_cell BK6.out 3
  have h54 := blk_cell BK6.out 4
  have h55 := blk_cell BK6.out 5
  have hf0 := blk_frozen BK6.out 0
  have hf1 := blk_frozen BK6.out 1
  have hf2 := blk_frozen BK6.out 2
  have hf3 := blk_frozen BK6.out 3
  have hf4 := blk_frozen BK6.out 4
  have hf5 := blk_frozen BK6.out 5
  go_wp2_with (fail)
  refine (HSC.out _ _ _ HS6.out HL3.out).mono ?_
  rintro e w7 ⟨rfl, hb7⟩
  have BK7 := Lib.hid (blk_below BK6.out hb7)
  have HB7 := Lib.hid (below_step HB6.out hb7)
  clear h50 h51 h52 h53 h54 h55 hf0 hf1 hf2 hf3 hf4 hf5 BK6 HB6 HS6 hb7
  have h60 := (blk_cell BK7.out 0).trans rfl
  have hf0 := blk_frozen BK7.out 0
  go_wp2_with (first | (go_at_call 19; (with_reducible refine (live_num 0 _).mono ?_); rintro e w9 ⟨rfl, ⟨nd9, rfl⟩⟩) | (go_at_call 19; (with_reducible refine (live_num 112 _).mono ?_); rintro e w9 ⟨rfl, ⟨nd9, rfl⟩⟩))
  go_ret
  exact ⟨rfl, by repeat (first | (with_reducible first | exact HB7.out | apply below_alloc | apply pw_below_drewN | apply below_drew1) | exact HB7.out)⟩
end Go.Proofs.YtmimipgmhgalaaaGreatDoor.PAll
end
