-- Printed by myprint.py, this session's own wrapper over the kit's print, out of the translation. Lean checks it.
import Derived.Test.YtmimipgmhgalaaaGreatDoorPAllx0
import Derived.Test.YtmimipgmhgalaaaGreatDoorPAllx17
import Derived.Test.YtmimipgmhgalaaaGreatDoorPAllx18
namespace Go.Proofs.YtmimipgmhgalaaaGreatDoor.PAll
open Go.RowKit Go.Proofs.YtmimipgmhgalaaaGreatDoorW.PrintWords Go.Proofs.YtmimipgmhgalaaaGreatDoorW.PrintLast Go.Proofs.YtmimipgmhgalaaaGreatDoorW.PrintMore
attribute [local go_sem] max2_int min2_int max_two min_two max_three min_three max_four min_four   -- for this text's walks alone
set_option linter.unusedVariables false
set_option linter.unusedSimpArgs false

/-! ### wicketref11_Check: function 26 -/
mutual
def wicketref11_Check.j0 : Nat → Bool → ByteArray → ByteArray → Int → Bool → ByteArray → List ByteArray → Option (Int)
  | 0, _, _, _, _, _, _, _ => none
  | k + 1, x5, x347000, x347001, x347002, x347003, x347004, x347005 => if x347003 = true then (if x347002 ≥ 2 then (wicketref11_Check.j1 k x5 (x347001.toList != ([] : List UInt8)) x347000 x347001 x347002 x347003 x347004 x347005) else (wicketref11_Check.j1 k x5 false x347000 x347001 x347002 x347003 x347004 x347005)) else (wicketref11_Check.j1 k x5 true x347000 x347001 x347002 x347003 x347004 x347005)
def wicketref11_Check.j1 : Nat → Bool → Bool → ByteArray → ByteArray → Int → Bool → ByteArray → List ByteArray → Option (Int)
  | 0, _, _, _, _, _, _, _, _ => none
  | k + 1, x5, x6, x347000, x347001, x347002, x347003, x347004, x347005 => (wicketref11_bytes.f k x347000 33 126 1 64).bind fun t353 => (if t353 = true then ((wicketref11_bytes.f k x347001 32 126 0 256).bind fun t354 => (if t354 = true then (if x347002 ≥ 1 then (if x347002 ≤ 3 then (if x6 = true then ((wicketref11_url.f k x347000 x347001 x347002 x347003 x347004 x347005).bind fun t355 => (if t355 = true then (if x5 = true then (some 0) else (some 111)) else (some 111))) else (some 111)) else (some 111)) else (some 111)) else (some 111))) else (some 111))
end
def wicketref11_Check.f (k : Nat) (a0_0 : ByteArray) (a0_1 : ByteArray) (a0_2 : Int) (a0_3 : Bool) (a0_4 : ByteArray) (l0_5 : List ByteArray) : Option (Int) := (wicketref11_Joined.f k l0_5).bind fun t347 => ((wicketref03_Scopes.f k t347).bind fun bt348 => (if bt348.2 = 0 then ((wicketref11_texts.f k bt348.1 l0_5).bind fun t352 => (wicketref11_Check.j0 k t352 a0_0 a0_1 a0_2 a0_3 a0_4 l0_5)) else (wicketref11_Check.j0 k false a0_0 a0_1 a0_2 a0_3 a0_4 l0_5)))
theorem wicketref11_Check.mono_l : ∀ k, (∀ y0 y1 y2 y3 y4 y5 y6, LeO (wicketref11_Check.j0 k y0 y1 y2 y3 y4 y5 y6) (wicketref11_Check.j0 (k + 1) y0 y1 y2 y3 y4 y5 y6)) ∧ (∀ y0 y1 y2 y3 y4 y5 y6 y7, LeO (wicketref11_Check.j1 k y0 y1 y2 y3 y4 y5 y6 y7) (wicketref11_Check.j1 (k + 1) y0 y1 y2 y3 y4 y5 y6 y7))
  | 0 => ⟨fun _ _ _ _ _ _ _ r h => by simp [wicketref11_Check.j0] at h, fun _ _ _ _ _ _ _ _ r h => by simp [wicketref11_Check.j1] at h⟩
  | k + 1 => by
    obtain ⟨ih0, ih1⟩ := wicketref11_Check.mono_l k
    refine ⟨?_, ?_⟩
    · intro y0 y1 y2 y3 y4 y5 y6
      unfold wicketref11_Check.j0
      repeat' first
      | (with_reducible exact ih0 _ _ _ _ _ _ _)
      | (with_reducible exact ih1 _ _ _ _ _ _ _ _)
      | (with_reducible exact wicketref03_Scopes.mono _ _)
      | (with_reducible exact wicketref11_Joined.mono _ _)
      | (with_reducible exact wicketref11_bytes.mono _ _ _ _ _ _)
      | (with_reducible exact wicketref11_texts.mono _ _ _)
      | (with_reducible exact wicketref11_url.mono _ _ _ _ _ _ _)
      | (with_reducible exact LeO.refl _)
      | (with_reducible exact LeO.none _)
      | (with_reducible refine LeO.ite ?_ ?_)
      | (with_reducible refine LeO.bind ?_ (fun _ => ?_))
      | exact ih0 _ _ _ _ _ _ _
      | exact ih1 _ _ _ _ _ _ _ _
      | exact wicketref03_Scopes.mono _ _
      | exact wicketref11_Joined.mono _ _
      | exact wicketref11_bytes.mono _ _ _ _ _ _
      | exact wicketref11_texts.mono _ _ _
      | exact wicketref11_url.mono _ _ _ _ _ _ _
      | exact LeO.none _
      | refine LeO.ite ?_ ?_
      | refine LeO.bind ?_ (fun _ => ?_)
    · intro y0 y1 y2 y3 y4 y5 y6 y7
      unfold wicketref11_Check.j1
      repeat' first
      | (with_reducible exact ih0 _ _ _ _ _ _ _)
      | (with_reducible exact ih1 _ _ _ _ _ _ _ _)
      | (with_reducible exact wicketref03_Scopes.mono _ _)
      | (with_reducible exact wicketref11_Joined.mono _ _)
      | (with_reducible exact wicketref11_bytes.mono _ _ _ _ _ _)
      | (with_reducible exact wicketref11_texts.mono _ _ _)
      | (with_reducible exact wicketref11_url.mono _ _ _ _ _ _ _)
      | (with_reducible exact LeO.refl _)
      | (with_reducible exact LeO.none _)
      | (with_reducible refine LeO.ite ?_ ?_)
      | (with_reducible refine LeO.bind ?_ (fun _ => ?_))
      | exact ih0 _ _ _ _ _ _ _
      | exact ih1 _ _ _ _ _ _ _ _
      | exact wicketref03_Scopes.mono _ _
      | exact wicketref11_Joined.mono _ _
      | exact wicketref11_bytes.mono _ _ _ _ _ _
      | exact wicketref11_texts.mono _ _ _
      | exact wicketref11_url.mono _ _ _ _ _ _ _
      | exact LeO.none _
      | refine LeO.ite ?_ ?_
      | refine LeO.bind ?_ (fun _ => ?_)
theorem wicketref11_Check.mono : ∀ a0 a1 a2 a3 a4 a5 k, LeO (wicketref11_Check.f k a0 a1 a2 a3 a4 a5) (wicketref11_Check.f (k + 1) a0 a1 a2 a3 a4 a5) := by
  intro a0 a1 a2 a3 a4 a5 k
  obtain ⟨ih0, ih1⟩ := wicketref11_Check.mono_l k
  unfold wicketref11_Check.f
  repeat' first
      | (with_reducible exact ih0 _ _ _ _ _ _ _)
      | (with_reducible exact ih1 _ _ _ _ _ _ _ _)
      | (with_reducible exact wicketref03_Scopes.mono _ _)
      | (with_reducible exact wicketref11_Joined.mono _ _)
      | (with_reducible exact wicketref11_bytes.mono _ _ _ _ _ _)
      | (with_reducible exact wicketref11_texts.mono _ _ _)
      | (with_reducible exact wicketref11_url.mono _ _ _ _ _ _ _)
      | (with_reducible exact LeO.refl _)
      | (with_reducible exact LeO.none _)
      | (with_reducible refine LeO.ite ?_ ?_)
      | (with_reducible refine LeO.bind ?_ (fun _ => ?_))
      | exact ih0 _ _ _ _ _ _ _
      | exact ih1 _ _ _ _ _ _ _ _
      | exact wicketref03_Scopes.mono _ _
      | exact wicketref11_Joined.mono _ _
      | exact wicketref11_bytes.mono _ _ _ _ _ _
      | exact wicketref11_texts.mono _ _ _
      | exact wicketref11_url.mono _ _ _ _ _ _ _
      | exact LeO.none _
      | refine LeO.ite ?_ ?_
      | refine LeO.bind ?_ (fun _ => ?_)
set_option maxHeartbeats 8000000 in
set_option maxRecDepth 100000 in
theorem wicketref11_Check.calls (k : Nat) (a0_0 : ByteArray) (a0_1 : ByteArray) (a0_2 : Int) (a0_3 : Bool) (a0_4 : ByteArray) (A0_5 : Option Addr) (c0_5 : Nat) (l0_5 : List ByteArray) (r : Int) (w : World) (hr0_5 : Kd.C Kd.string w A0_5 l0_5.length l0_5) (hc0_5 : l0_5.length ≤ c0_5) (h : wicketref11_Check.f k a0_0 a0_1 a0_2 a0_3 a0_4 l0_5 = some r) :
    Calls Tryz.prog 26 #[.agg #[.string a0_0, .string a0_1, .int .i64 a0_2, .bool a0_3, .string a0_4, .slice A0_5 l0_5.length c0_5]] w fun e w' => e = .returned (.int .i64 r) ∧ Below w.heap.size w w' := by
  have hu43 := Tryz.underlying43
  have HR0_5 := Aside0.mk hr0_5
  have HC0_5 := Aside0.mk hc0_5
  clear hr0_5 hc0_5
  have HB := Aside0.mk (Below.refl w.heap.size w)
  have H : ((wicketref11_Joined.f k l0_5).bind fun t347 => ((wicketref03_Scopes.f k t347).bind fun bt348 => (if bt348.2 = 0 then ((wicketref11_texts.f k bt348.1 l0_5).bind fun t352 => (wicketref11_Check.j0 k t352 a0_0 a0_1 a0_2 a0_3 a0_4 l0_5)) else (wicketref11_Check.j0 k false a0_0 a0_1 a0_2 a0_3 a0_4 l0_5)))) = some r := h
  clear h
  replace H := Option.bind_eq_some_iff.mp H
  obtain ⟨t347, A20, H⟩ := H
  replace H : ((wicketref03_Scopes.f k t347).bind fun bt348 => (if bt348.2 = 0 then ((wicketref11_texts.f k bt348.1 l0_5).bind fun t352 => (wicketref11_Check.j0 k t352 a0_0 a0_1 a0_2 a0_3 a0_4 l0_5)) else (wicketref11_Check.j0 k false a0_0 a0_1 a0_2 a0_3 a0_4 l0_5))) = some r := H
  have A2 := Aside0.mk A20
  clear A20
  replace H := Option.bind_eq_some_iff.mp H
  obtain ⟨⟨t348, t349⟩, A30, H⟩ := H
  replace H : (if t349 = 0 then ((wicketref11_texts.f k t348 l0_5).bind fun t352 => (wicketref11_Check.j0 k t352 a0_0 a0_1 a0_2 a0_3 a0_4 l0_5)) else (wicketref11_Check.j0 k false a0_0 a0_1 a0_2 a0_3 a0_4 l0_5)) = some r := H
  have A3 := Aside0.mk A30
  clear A30
  have HC4 := Aside0.mk H
  clear H
  go_enter Tryz.func26, Tryz.ntmps26
  go_upto_region 2 with (first | ((with_reducible refine gate_dst (N := 1) rfl ?_); refine box_event ?hg (N := 1) ?hd (cs := #[.string a0_0, .string a0_1, .int .i64 a0_2, .bool a0_3, .string a0_4, .slice A0_5 l0_5.length c0_5]) (t := 43) ?hr ?_; (case hd => rfl); (case hg => rfl); (case hr => first | (go_simp; done) | (go_simp; rfl)); intro gb346 hg w5 hbox hb; have n0_ := Aside0.mk (below_step (by repeat (first | (with_reducible first | exact HB.out | apply below_alloc | apply pw_below_drewN | apply below_drew1) | exact HB.out)) hb); have n1_ := Aside0.mk (hbox); have n2_ := Aside0.mk ((by rw [hg]; exact (below_size (by repeat (first | (with_reducible first | exact HB.out | apply below_alloc | apply pw_below_drewN | apply below_drew1) | exact HB.out))) : w.heap.size ≤ gb346)); have n3_ := Aside0.mk ((by rw [hg]; exact (below_size (by repeat (first | (with_reducible first | exact HB.out | apply below_alloc | apply pw_below_drewN | apply below_drew1) | exact HB.out))) : w.heap.size ≤ gb346)); clear HB; have HB := n0_; have BK346 := n1_; have GW346 := n2_; have GE346 := n3_; clear n0_ n1_ n2_ n3_; clear hb hbox hg; have hcz6_0 : w5.cell? ⟨gb346, 0, none⟩ = some (.string a0_0) := (blk_cell BK346.out 0).trans rfl; have hcz6_1 : w5.cell? ⟨gb346, 1, none⟩ = some (.string a0_1) := (blk_cell BK346.out 1).trans rfl; have hcz6_2 : w5.cell? ⟨gb346, 2, none⟩ = some (.int .i64 a0_2) := (blk_cell BK346.out 2).trans rfl; have hcz6_3 : w5.cell? ⟨gb346, 3, none⟩ = some (.bool a0_3) := (blk_cell BK346.out 3).trans rfl; have hcz6_4 : w5.cell? ⟨gb346, 4, none⟩ = some (.string a0_4) := (blk_cell BK346.out 4).trans rfl; have hcz6_5 : w5.cell? ⟨gb346, 5, none⟩ = some (.slice A0_5 l0_5.length c0_5) := (blk_cell BK346.out 5).trans rfl; have hfz6_0 := blk_frozen BK346.out 0; have hfz6_1 := blk_frozen BK346.out 1; have hfz6_2 := blk_frozen BK346.out 2; have hfz6_3 := blk_frozen BK346.out 3; have hfz6_4 := blk_frozen BK346.out 4; have hfz6_5 := blk_frozen BK346.out 5) | ((with_reducible refine gate_callee (f := 42) rfl ?_); refine goesL_ (some 10) rfl rfl Tryz.func42 (by kernel_rfl) rfl #[.slice A0_5 l0_5.length c0_5] rfl (by (try simp only [List.map_toArray, List.map_cons, List.map_nil]); first | done | rfl | (simp only [List.length_drop, List.length_take]; rfl)) ?_; (with_reducible refine (wicketref11_Joined.calls k _ _ l0_5 t347 _ ?side1 ?side2 A2.out).mono ?_); (case side1 => repeat (first | exact (Kd.C_below HR0_5.out HB.out) | (with_reducible refine Kd.C_alloc ?_ _) | (with_reducible refine Kd.C_drewN ?_ _) | (with_reducible refine Kd.C_drew ?_))); (case side2 => exact HC0_5.out); rintro e w' ⟨rfl, ⟨nd, rfl⟩⟩; refine ⟨_, rfl, ?_⟩) | ((with_reducible refine gate_callee (f := 43) rfl ?_); refine goesL_ (some 11) rfl rfl Tryz.func43 (by kernel_rfl) rfl #[.string t347] rfl (by (try simp only [List.map_toArray, List.map_cons, List.map_nil]); first | done | rfl | (simp only [List.length_drop, List.length_take]; rfl)) ?_; (with_reducible refine (wicketref03_Scopes.calls k t347 t348 t349 _ A3.out).mono ?_); rintro e w7 ⟨v350, rfl, ho0, hb⟩; refine ⟨_, rfl, ?_⟩; have n0_ := Aside0.mk (Kd.R_lower ho0 (below_size (by repeat (first | (with_reducible first | exact HB.out | apply below_alloc | apply pw_below_drewN | apply below_drew1 | refine below_set ?_ GE346.out) | exact HB.out)))); have n1_ := Aside0.mk (blk_below (g := gb346) (o := .cells #[.string a0_0, .string a0_1, .int .i64 a0_2, .bool a0_3, .string a0_4, .slice A0_5 l0_5.length c0_5] 43 (0, 0)) (by (with_reducible repeat (first | refine blk_drewN ?_ _ | refine blk_drew ?_ | refine blk_alloc ?_ _)); exact BK346.out) hb); have n2_ := Aside0.mk (below_step (by repeat (first | (with_reducible first | exact HB.out | apply below_alloc | apply pw_below_drewN | apply below_drew1 | refine below_set ?_ GE346.out) | exact HB.out)) hb); clear BK346; clear HB; have HO351 := n0_; have BK346 := n1_; have HB := n2_; clear n0_ n1_ n2_; (try clear hb); (try clear hb2); (try clear hk); (try clear hi); (try clear ho0)))
  (try simp only [Act.put, List.setIfInBounds_toArray, List.set_cons_zero, List.set_cons_succ])
  go_cut [5] (fun v5 wc => ∃ (kq : Nat) (x5_3 : Bool), v5 = .bool x5_3 ∧ Aside0 (wicketref11_Check.j0 kq x5_3 a0_0 a0_1 a0_2 a0_3 a0_4 l0_5 = some r) ∧ Aside0 (kq ≤ k) ∧ Aside0 (wc.heap[gb346]? = some (.cells #[.string a0_0, .string a0_1, .int .i64 a0_2, .bool a0_3, .string a0_4, (.slice A0_5 l0_5.length c0_5)] 43 (0, 0))) ∧ Aside0 (Below w.heap.size w wc))
  case first =>
    have H := HC4.out
    clear HC4
    by_cases c8 : t349 = 0
    · rw [if_pos c8] at H
      have c8b0 : (t349 == 0) = true := beq_iff_eq.mpr c8
      have c8b1 : (t349 != 0) = false := bne_eq_false_iff_eq.mpr c8
      clear c8
      (first | rw [c8b0] | (simp only [i64_w, i32_w]; rw [c8b0]) | skip)
      replace H := Option.bind_eq_some_iff.mp H
      obtain ⟨t352, A90, H⟩ := H
      replace H : (wicketref11_Check.j0 k t352 a0_0 a0_1 a0_2 a0_3 a0_4 l0_5) = some r := H
      have A9 := Aside0.mk A90
      clear A90
      have H' := Aside0.mk H
      clear H
      have hcz10_0 : w7.cell? ⟨gb346, 0, none⟩ = some (.string a0_0) := (blk_cell BK346.out 0).trans rfl
      have hcz10_1 : w7.cell? ⟨gb346, 1, none⟩ = some (.string a0_1) := (blk_cell BK346.out 1).trans rfl
      have hcz10_2 : w7.cell? ⟨gb346, 2, none⟩ = some (.int .i64 a0_2) := (blk_cell BK346.out 2).trans rfl
      have hcz10_3 : w7.cell? ⟨gb346, 3, none⟩ = some (.bool a0_3) := (blk_cell BK346.out 3).trans rfl
      have hcz10_4 : w7.cell? ⟨gb346, 4, none⟩ = some (.string a0_4) := (blk_cell BK346.out 4).trans rfl
      have hcz10_5 : w7.cell? ⟨gb346, 5, none⟩ = some (.slice A0_5 l0_5.length c0_5) := (blk_cell BK346.out 5).trans rfl
      have hfz10_0 := blk_frozen BK346.out 0
      have hfz10_1 := blk_frozen BK346.out 1
      have hfz10_2 := blk_frozen BK346.out 2
      have hfz10_3 := blk_frozen BK346.out 3
      have hfz10_4 := blk_frozen BK346.out 4
      have hfz10_5 := blk_frozen BK346.out 5
      obtain ⟨Ao11, co11, eo11⟩ := Kd.R_slice HO351.out
      subst eo11
      go_wp2_with (first | (go_at_call 57; (with_reducible refine (wicketref11_texts.calls k _ _ t348 _ _ l0_5 t352 _ ?side1 ?side2 ?side3 ?side4 A9.out).mono ?_); (case side1 => repeat (first | exact (Kd.R_reads' HO351.out).2.2 | (with_reducible refine Kd.C_alloc ?_ _) | (with_reducible refine Kd.C_drewN ?_ _) | (with_reducible refine Kd.C_drew ?_))); (case side2 => exact (Kd.R_reads' HO351.out).2.1); (case side3 => repeat (first | exact (Kd.C_below HR0_5.out HB.out) | (with_reducible refine Kd.C_alloc ?_ _) | (with_reducible refine Kd.C_drewN ?_ _) | (with_reducible refine Kd.C_drew ?_))); (case side4 => exact HC0_5.out); rintro e w' ⟨rfl, ⟨nd, rfl⟩⟩))
      go_meet
      case rel => exact ⟨_, (t352), (by first | rfl | (simp; done) | (simp [*]; done) | (simp; (generalize ByteArray.toList _ = z_); cases z_ <;> rfl)), H', ⟨by first | omega | exact Nat.le_refl _⟩, ⟨by (with_reducible repeat (first | refine blk_drewN ?_ _ | refine blk_drew ?_ | refine blk_alloc ?_ _)); exact BK346.out⟩, ⟨by repeat (first | (with_reducible first | exact HB.out | apply below_alloc | apply pw_below_drewN | apply below_drew1 | refine below_set ?_ GE346.out) | exact HB.out)⟩⟩
    · rw [if_neg c8] at H
      have c8b0 : (t349 == 0) = false := beq_eq_false_iff_ne.mpr c8
      have c8b1 : (t349 != 0) = true := bne_iff_ne.mpr c8
      (first | rw [c8b0] | (simp only [i64_w, i32_w]; rw [c8b0]) | skip)
      have H' := Aside0.mk H
      clear H
      go_wp2
      go_meet
      case rel => exact ⟨_, (false), (by first | rfl | (simp; done) | (simp [*]; done) | (simp; (generalize ByteArray.toList _ = z_); cases z_ <;> rfl)), H', ⟨by first | omega | exact Nat.le_refl _⟩, ⟨by (with_reducible repeat (first | refine blk_drewN ?_ _ | refine blk_drew ?_ | refine blk_alloc ?_ _)); exact BK346.out⟩, ⟨by repeat (first | (with_reducible first | exact HB.out | apply below_alloc | apply pw_below_drewN | apply below_drew1 | refine below_set ?_ GE346.out) | exact HB.out)⟩⟩
  case rest =>
    clear HC4
    try clear c2
    try clear p2
    try clear c4
    try clear c8
    try clear c8b0
    try clear c8b1
    try clear hcz10_0
    try clear hcz10_1
    try clear hcz10_2
    try clear hcz10_3
    try clear hcz10_4
    try clear hcz10_5
    try clear hcz6_0
    try clear hcz6_1
    try clear hcz6_2
    try clear hcz6_3
    try clear hcz6_4
    try clear hcz6_5
    try clear hfz10_0
    try clear hfz10_1
    try clear hfz10_2
    try clear hfz10_3
    try clear hfz10_4
    try clear hfz10_5
    try clear hfz6_0
    try clear hfz6_1
    try clear hfz6_2
    try clear hfz6_3
    try clear hfz6_4
    try clear hfz6_5
    obtain ⟨kq, x5_3, rfl, HA, HJ3, BK346, HB⟩ := hcut
    cases kq with
    | zero => exact absurd HA.out (by simp [wicketref11_Check.j0])
    | succ kj3 =>
      have H := HA.out
      clear HA
      simp only [wicketref11_Check.j0] at H
      have HC12 := Aside0.mk H
      clear H
      go_upto_region 3 with (fail)
      go_cut [6] (fun v6 wc => ∃ (kq : Nat) (x6_11 : Bool), v6 = .bool x6_11 ∧ Aside0 (wicketref11_Check.j1 kq x5_3 x6_11 a0_0 a0_1 a0_2 a0_3 a0_4 l0_5 = some r) ∧ Aside0 (kq ≤ kj3) ∧ Aside0 (wc.heap[gb346]? = some (.cells #[.string a0_0, .string a0_1, .int .i64 a0_2, .bool a0_3, .string a0_4, (.slice A0_5 l0_5.length c0_5)] 43 (0, 0))) ∧ Aside0 (Below w.heap.size w wc))
      case first =>
        have H := HC12.out
        clear HC12
        by_cases c13 : a0_3 = true
        · subst c13
          have H1 : (if a0_2 ≥ 2 then (wicketref11_Check.j1 kj3 x5_3 (a0_1.toList != ([] : List UInt8)) a0_0 a0_1 a0_2 true a0_4 l0_5) else (wicketref11_Check.j1 kj3 x5_3 false a0_0 a0_1 a0_2 true a0_4 l0_5)) = some r := by rw [if_pos rfl] at H; exact H
          clear H
          have H := H1
          clear H1
          by_cases c14 : a0_2 ≥ 2
          · rw [if_pos c14] at H
            have c14b0 : decide (2 ≤ a0_2) = true := decide_eq_true c14
            clear c14
            (first | rw [c14b0] | (simp only [i64_w, i32_w]; rw [c14b0]) | skip)
            have H' := Aside0.mk H
            clear H
            have hcz15_0 : wc.cell? ⟨gb346, 0, none⟩ = some (.string a0_0) := (blk_cell BK346.out 0).trans rfl
            have hcz15_1 : wc.cell? ⟨gb346, 1, none⟩ = some (.string a0_1) := (blk_cell BK346.out 1).trans rfl
            have hcz15_2 : wc.cell? ⟨gb346, 2, none⟩ = some (.int .i64 a0_2) := (blk_cell BK346.out 2).trans rfl
            have hcz15_3 : wc.cell? ⟨gb346, 3, none⟩ = some (.bool true) := (blk_cell BK346.out 3).trans rfl
            have hcz15_4 : wc.cell? ⟨gb346, 4, none⟩ = some (.string a0_4) := (blk_cell BK346.out 4).trans rfl
            have hcz15_5 : wc.cell? ⟨gb346, 5, none⟩ = some (.slice A0_5 l0_5.length c0_5) := (blk_cell BK346.out 5).trans rfl
            have hfz15_0 := blk_frozen BK346.out 0
            have hfz15_1 := blk_frozen BK346.out 1
            have hfz15_2 := blk_frozen BK346.out 2
            have hfz15_3 := blk_frozen BK346.out 3
            have hfz15_4 := blk_frozen BK346.out 4
            have hfz15_5 := blk_frozen BK346.out 5
            go_wp2
            go_meet
            case rel => exact ⟨_, ((a0_1.toList != ([] : List UInt8))), (by first | rfl | (simp; done) | (simp [*]; done) | (simp; (generalize ByteArray.toList _ = z_); cases z_ <;> rfl)), H', ⟨by have := HJ3.out; first | omega | exact Nat.le_refl _⟩, ⟨by (with_reducible repeat (first | refine blk_drewN ?_ _ | refine blk_drew ?_ | refine blk_alloc ?_ _)); exact BK346.out⟩, ⟨by repeat (first | (with_reducible first | exact HB.out | apply below_alloc | apply pw_below_drewN | apply below_drew1 | refine below_set ?_ GE346.out) | exact HB.out)⟩⟩
          · rw [if_neg c14] at H
            have c14b0 : decide (2 ≤ a0_2) = false := decide_eq_false c14
            clear c14
            (first | rw [c14b0] | (simp only [i64_w, i32_w]; rw [c14b0]) | skip)
            have H' := Aside0.mk H
            clear H
            have hcz16_0 : wc.cell? ⟨gb346, 0, none⟩ = some (.string a0_0) := (blk_cell BK346.out 0).trans rfl
            have hcz16_1 : wc.cell? ⟨gb346, 1, none⟩ = some (.string a0_1) := (blk_cell BK346.out 1).trans rfl
            have hcz16_2 : wc.cell? ⟨gb346, 2, none⟩ = some (.int .i64 a0_2) := (blk_cell BK346.out 2).trans rfl
            have hcz16_3 : wc.cell? ⟨gb346, 3, none⟩ = some (.bool true) := (blk_cell BK346.out 3).trans rfl
            have hcz16_4 : wc.cell? ⟨gb346, 4, none⟩ = some (.string a0_4) := (blk_cell BK346.out 4).trans rfl
            have hcz16_5 : wc.cell? ⟨gb346, 5, none⟩ = some (.slice A0_5 l0_5.length c0_5) := (blk_cell BK346.out 5).trans rfl
            have hfz16_0 := blk_frozen BK346.out 0
            have hfz16_1 := blk_frozen BK346.out 1
            have hfz16_2 := blk_frozen BK346.out 2
            have hfz16_3 := blk_frozen BK346.out 3
            have hfz16_4 := blk_frozen BK346.out 4
            have hfz16_5 := blk_frozen BK346.out 5
            go_wp2
            go_meet
            case rel => exact ⟨_, (false), (by first | rfl | (simp; done) | (simp [*]; done) | (simp; (generalize ByteArray.toList _ = z_); cases z_ <;> rfl)), H', ⟨by have := HJ3.out; first | omega | exact Nat.le_refl _⟩, ⟨by (with_reducible repeat (first | refine blk_drewN ?_ _ | refine blk_drew ?_ | refine blk_alloc ?_ _)); exact BK346.out⟩, ⟨by repeat (first | (with_reducible first | exact HB.out | apply below_alloc | apply pw_below_drewN | apply below_drew1 | refine below_set ?_ GE346.out) | exact HB.out)⟩⟩
        · replace c13 := Bool.eq_false_iff.mpr c13
          subst c13
          have H1 : (wicketref11_Check.j1 kj3 x5_3 true a0_0 a0_1 a0_2 false a0_4 l0_5) = some r := by rw [if_neg (show ¬ (false = true) by decide)] at H; exact H
          clear H
          have H := H1
          clear H1
          have H' := Aside0.mk H
          clear H
          have hcz17_0 : wc.cell? ⟨gb346, 0, none⟩ = some (.string a0_0) := (blk_cell BK346.out 0).trans rfl
          have hcz17_1 : wc.cell? ⟨gb346, 1, none⟩ = some (.string a0_1) := (blk_cell BK346.out 1).trans rfl
          have hcz17_2 : wc.cell? ⟨gb346, 2, none⟩ = some (.int .i64 a0_2) := (blk_cell BK346.out 2).trans rfl
          have hcz17_3 : wc.cell? ⟨gb346, 3, none⟩ = some (.bool false) := (blk_cell BK346.out 3).trans rfl
          have hcz17_4 : wc.cell? ⟨gb346, 4, none⟩ = some (.string a0_4) := (blk_cell BK346.out 4).trans rfl
          have hcz17_5 : wc.cell? ⟨gb346, 5, none⟩ = some (.slice A0_5 l0_5.length c0_5) := (blk_cell BK346.out 5).trans rfl
          have hfz17_0 := blk_frozen BK346.out 0
          have hfz17_1 := blk_frozen BK346.out 1
          have hfz17_2 := blk_frozen BK346.out 2
          have hfz17_3 := blk_frozen BK346.out 3
          have hfz17_4 := blk_frozen BK346.out 4
          have hfz17_5 := blk_frozen BK346.out 5
          go_wp2
          go_meet
          case rel => exact ⟨_, (true), (by first | rfl | (simp; done) | (simp [*]; done) | (simp; (generalize ByteArray.toList _ = z_); cases z_ <;> rfl)), H', ⟨by have := HJ3.out; first | omega | exact Nat.le_refl _⟩, ⟨by (with_reducible repeat (first | refine blk_drewN ?_ _ | refine blk_drew ?_ | refine blk_alloc ?_ _)); exact BK346.out⟩, ⟨by repeat (first | (with_reducible first | exact HB.out | apply below_alloc | apply pw_below_drewN | apply below_drew1 | refine below_set ?_ GE346.out) | exact HB.out)⟩⟩
      case rest =>
        clear HC12
        try clear c1
        try clear c2
        try clear p2
        try clear c4
        try clear c8
        try clear c8b0
        try clear c8b1
        try clear c13
        try clear c14
        try clear c14b0
        try clear hcz10_0
        try clear hcz10_1
        try clear hcz10_2
        try clear hcz10_3
        try clear hcz10_4
        try clear hcz10_5
        try clear hcz15_0
        try clear hcz15_1
        try clear hcz15_2
        try clear hcz15_3
        try clear hcz15_4
        try clear hcz15_5
        try clear hcz16_0
        try clear hcz16_1
        try clear hcz16_2
        try clear hcz16_3
        try clear hcz16_4
        try clear hcz16_5
        try clear hcz17_0
        try clear hcz17_1
        try clear hcz17_2
        try clear hcz17_3
        try clear hcz17_4
        try clear hcz17_5
        try clear hcz6_0
        try clear hcz6_1
        try clear hcz6_2
        try clear hcz6_3
        try clear hcz6_4
        try clear hcz6_5
        try clear hfz10_0
        try clear hfz10_1
        try clear hfz10_2
        try clear hfz10_3
        try clear hfz10_4
        try clear hfz10_5
        try clear hfz15_0
        try clear hfz15_1
        try clear hfz15_2
        try clear hfz15_3
        try clear hfz15_4
        try clear hfz15_5
        try clear hfz16_0
        try clear hfz16_1
        try clear hfz16_2
        try clear hfz16_3
        try clear hfz16_4
        try clear hfz16_5
        try clear hfz17_0
        try clear hfz17_1
        try clear hfz17_2
        try clear hfz17_3
        try clear hfz17_4
        try clear hfz17_5
        try clear hfz6_0
        try clear hfz6_1
        try clear hfz6_2
        try clear hfz6_3
        try clear hfz6_4
        try clear hfz6_5
        try clear p2
        obtain ⟨kq, x6_11, rfl, HA, HJ11, BK346, HB⟩ := hcut
        cases kq with
        | zero => exact absurd HA.out (by simp [wicketref11_Check.j1])
        | succ kj11 =>
          have H := HA.out
          clear HA
          simp only [wicketref11_Check.j1] at H
          replace H := Option.bind_eq_some_iff.mp H
          obtain ⟨t353, A180, H⟩ := H
          replace H : (if t353 = true then ((wicketref11_bytes.f kj11 a0_1 32 126 0 256).bind fun t354 => (if t354 = true then (if a0_2 ≥ 1 then (if a0_2 ≤ 3 then (if x6_11 = true then ((wicketref11_url.f kj11 a0_0 a0_1 a0_2 a0_3 a0_4 l0_5).bind fun t355 => (if t355 = true then (if x5_3 = true then (some 0) else (some 111)) else (some 111))) else (some 111)) else (some 111)) else (some 111)) else (some 111))) else (some 111)) = some r := H
          have A18 := Aside0.mk A180
          clear A180
          by_cases c19 : t353 = true
          · subst c19
            have H1 : ((wicketref11_bytes.f kj11 a0_1 32 126 0 256).bind fun t354 => (if t354 = true then (if a0_2 ≥ 1 then (if a0_2 ≤ 3 then (if x6_11 = true then ((wicketref11_url.f kj11 a0_0 a0_1 a0_2 a0_3 a0_4 l0_5).bind fun t355 => (if t355 = true then (if x5_3 = true then (some 0) else (some 111)) else (some 111))) else (some 111)) else (some 111)) else (some 111)) else (some 111))) = some r := by rw [if_pos rfl] at H; exact H
            clear H
            have H := H1
            clear H1
            replace H := Option.bind_eq_some_iff.mp H
            obtain ⟨t354, A200, H⟩ := H
            replace H : (if t354 = true then (if a0_2 ≥ 1 then (if a0_2 ≤ 3 then (if x6_11 = true then ((wicketref11_url.f kj11 a0_0 a0_1 a0_2 a0_3 a0_4 l0_5).bind fun t355 => (if t355 = true then (if x5_3 = true then (some 0) else (some 111)) else (some 111))) else (some 111)) else (some 111)) else (some 111)) else (some 111)) = some r := H
            have A20 := Aside0.mk A200
            clear A200
            by_cases c21 : t354 = true
            · subst c21
              have H1 : (if a0_2 ≥ 1 then (if a0_2 ≤ 3 then (if x6_11 = true then ((wicketref11_url.f kj11 a0_0 a0_1 a0_2 a0_3 a0_4 l0_5).bind fun t355 => (if t355 = true then (if x5_3 = true then (some 0) else (some 111)) else (some 111))) else (some 111)) else (some 111)) else (some 111)) = some r := by rw [if_pos rfl] at H; exact H
              clear H
              have H := H1
              clear H1
              by_cases c22 : a0_2 ≥ 1
              · rw [if_pos c22] at H
                have c22b0 : decide (1 ≤ a0_2) = true := decide_eq_true c22
                clear c22
                by_cases c23 : a0_2 ≤ 3
                · rw [if_pos c23] at H
                  have c23b0 : decide (a0_2 ≤ 3) = true := decide_eq_true c23
                  clear c23
                  by_cases c24 : x6_11 = true
                  · subst c24
                    have H1 : ((wicketref11_url.f kj11 a0_0 a0_1 a0_2 a0_3 a0_4 l0_5).bind fun t355 => (if t355 = true then (if x5_3 = true then (some 0) else (some 111)) else (some 111))) = some r := by rw [if_pos rfl] at H; exact H
                    clear H
                    have H := H1
                    clear H1
                    replace H := Option.bind_eq_some_iff.mp H
                    obtain ⟨t355, A250, H⟩ := H
                    replace H : (if t355 = true then (if x5_3 = true then (some 0) else (some 111)) else (some 111)) = some r := H
                    have A25 := Aside0.mk A250
                    clear A250
                    by_cases c26 : t355 = true
                    · subst c26
                      have H1 : (if x5_3 = true then (some 0) else (some 111)) = some r := by rw [if_pos rfl] at H; exact H
                      clear H
                      have H := H1
                      clear H1
                      by_cases c27 : x5_3 = true
                      · subst c27
                        have H1 : (some 0) = some r := by rw [if_pos rfl] at H; exact H
                        clear H
                        have H := H1
                        clear H1
                        obtain rfl := Option.some.inj H
                        have hcz28_0 : wc.cell? ⟨gb346, 0, none⟩ = some (.string a0_0) := (blk_cell BK346.out 0).trans rfl
                        have hcz28_1 : wc.cell? ⟨gb346, 1, none⟩ = some (.string a0_1) := (blk_cell BK346.out 1).trans rfl
                        have hcz28_2 : wc.cell? ⟨gb346, 2, none⟩ = some (.int .i64 a0_2) := (blk_cell BK346.out 2).trans rfl
                        have hcz28_3 : wc.cell? ⟨gb346, 3, none⟩ = some (.bool a0_3) := (blk_cell BK346.out 3).trans rfl
                        have hcz28_4 : wc.cell? ⟨gb346, 4, none⟩ = some (.string a0_4) := (blk_cell BK346.out 4).trans rfl
                        have hcz28_5 : wc.cell? ⟨gb346, 5, none⟩ = some (.slice A0_5 l0_5.length c0_5) := (blk_cell BK346.out 5).trans rfl
                        have hfz28_0 := blk_frozen BK346.out 0
                        have hfz28_1 := blk_frozen BK346.out 1
                        have hfz28_2 := blk_frozen BK346.out 2
                        have hfz28_3 := blk_frozen BK346.out 3
                        have hfz28_4 := blk_frozen BK346.out 4
                        have hfz28_5 := blk_frozen BK346.out 5
                        go_wp2_with (first | ((with_reducible refine gate_callee (f := 58) rfl ?_); refine goesL_ (some 37) rfl rfl Tryz.func58 (by kernel_rfl) rfl #[.string a0_0, .int .u8 33, .int .u8 126, .int .i64 1, .int .i64 64] rfl (by (try simp only [List.map_toArray, List.map_cons, List.map_nil]); first | done | rfl | (simp only [List.length_drop, List.length_take]; rfl)) ?_; (with_reducible refine (wicketref11_bytes.calls kj11 a0_0 33 126 1 64 true _ A18.out).mono ?_); rintro e w' ⟨rfl, ⟨nd, rfl⟩⟩; refine ⟨_, rfl, ?_⟩) | (go_at_call 58; (with_reducible refine (wicketref11_bytes.calls kj11 a0_1 32 126 0 256 true _ A20.out).mono ?_); rintro e w' ⟨rfl, ⟨nd, rfl⟩⟩) | (go_at_call 59; (with_reducible refine (wicketref11_url.calls kj11 a0_0 a0_1 a0_2 a0_3 a0_4 _ _ l0_5 true _ ?side1 ?side2 A25.out).mono ?_); (case side1 => repeat (first | exact (Kd.C_below HR0_5.out (by repeat (first | (with_reducible first | exact HB.out | apply below_alloc | apply pw_below_drewN | apply below_drew1 | refine below_set ?_ GE346.out) | exact HB.out))) | (with_reducible refine Kd.C_alloc ?_ _) | (with_reducible refine Kd.C_drewN ?_ _) | (with_reducible refine Kd.C_drew ?_))); (case side2 => exact HC0_5.out); rintro e w29 ⟨rfl, hb⟩; have n0_ := Aside0.mk (blk_below (g := gb346) (o := .cells #[.string a0_0, .string a0_1, .int .i64 a0_2, .bool a0_3, .string a0_4, .slice A0_5 l0_5.length c0_5] 43 (0, 0)) (by (with_reducible repeat (first | refine blk_drewN ?_ _ | refine blk_drew ?_ | refine blk_alloc ?_ _)); exact BK346.out) hb); have n1_ := Aside0.mk (below_step (by repeat (first | (with_reducible first | exact HB.out | apply below_alloc | apply pw_below_drewN | apply below_drew1 | refine below_set ?_ GE346.out) | exact HB.out)) hb); clear BK346; clear HB; have BK346 := n0_; have HB := n1_; clear n0_ n1_; (try clear hb); (try clear hb2); (try clear hk); (try clear hi)))
                        go_ret
                        exact ⟨by first | rfl | (simp [errW_none, errW_some] <;> rfl) | (simp [*, errW_none, errW_some] <;> rfl) | (simp; (generalize ByteArray.toList _ = z_); cases z_ <;> rfl), by repeat (first | (with_reducible first | exact HB.out | apply below_alloc | apply pw_below_drewN | apply below_drew1 | refine below_set ?_ GE346.out) | exact HB.out)⟩
                      · replace c27 := Bool.eq_false_iff.mpr c27
                        subst c27
                        have H1 : (some 111) = some r := by rw [if_neg (show ¬ (false = true) by decide)] at H; exact H
                        clear H
                        have H := H1
                        clear H1
                        obtain rfl := Option.some.inj H
                        have hcz30_0 : wc.cell? ⟨gb346, 0, none⟩ = some (.string a0_0) := (blk_cell BK346.out 0).trans rfl
                        have hcz30_1 : wc.cell? ⟨gb346, 1, none⟩ = some (.string a0_1) := (blk_cell BK346.out 1).trans rfl
                        have hcz30_2 : wc.cell? ⟨gb346, 2, none⟩ = some (.int .i64 a0_2) := (blk_cell BK346.out 2).trans rfl
                        have hcz30_3 : wc.cell? ⟨gb346, 3, none⟩ = some (.bool a0_3) := (blk_cell BK346.out 3).trans rfl
                        have hcz30_4 : wc.cell? ⟨gb346, 4, none⟩ = some (.string a0_4) := (blk_cell BK346.out 4).trans rfl
                        have hcz30_5 : wc.cell? ⟨gb346, 5, none⟩ = some (.slice A0_5 l0_5.length c0_5) := (blk_cell BK346.out 5).trans rfl
                        have hfz30_0 := blk_frozen BK346.out 0
                        have hfz30_1 := blk_frozen BK346.out 1
                        have hfz30_2 := blk_frozen BK346.out 2
                        have hfz30_3 := blk_frozen BK346.out 3
                        have hfz30_4 := blk_frozen BK346.out 4
                        have hfz30_5 := blk_frozen BK346.out 5
                        go_wp2_with (first | ((with_reducible refine gate_callee (f := 58) rfl ?_); refine goesL_ (some 37) rfl rfl Tryz.func58 (by kernel_rfl) rfl #[.string a0_0, .int .u8 33, .int .u8 126, .int .i64 1, .int .i64 64] rfl (by (try simp only [List.map_toArray, List.map_cons, List.map_nil]); first | done | rfl | (simp only [List.length_drop, List.length_take]; rfl)) ?_; (with_reducible refine (wicketref11_bytes.calls kj11 a0_0 33 126 1 64 true _ A18.out).mono ?_); rintro e w' ⟨rfl, ⟨nd, rfl⟩⟩; refine ⟨_, rfl, ?_⟩) | (go_at_call 58; (with_reducible refine (wicketref11_bytes.calls kj11 a0_1 32 126 0 256 true _ A20.out).mono ?_); rintro e w' ⟨rfl, ⟨nd, rfl⟩⟩) | (go_at_call 59; (with_reducible refine (wicketref11_url.calls kj11 a0_0 a0_1 a0_2 a0_3 a0_4 _ _ l0_5 true _ ?side1 ?side2 A25.out).mono ?_); (case side1 => repeat (first | exact (Kd.C_below HR0_5.out (by repeat (first | (with_reducible first | exact HB.out | apply below_alloc | apply pw_below_drewN | apply below_drew1 | refine below_set ?_ GE346.out) | exact HB.out))) | (with_reducible refine Kd.C_alloc ?_ _) | (with_reducible refine Kd.C_drewN ?_ _) | (with_reducible refine Kd.C_drew ?_))); (case side2 => exact HC0_5.out); rintro e w31 ⟨rfl, hb⟩; have n0_ := Aside0.mk (blk_below (g := gb346) (o := .cells #[.string a0_0, .string a0_1, .int .i64 a0_2, .bool a0_3, .string a0_4, .slice A0_5 l0_5.length c0_5] 43 (0, 0)) (by (with_reducible repeat (first | refine blk_drewN ?_ _ | refine blk_drew ?_ | refine blk_alloc ?_ _)); exact BK346.out) hb); have n1_ := Aside0.mk (below_step (by repeat (first | (with_reducible first | exact HB.out | apply below_alloc | apply pw_below_drewN | apply below_drew1 | refine below_set ?_ GE346.out) | exact HB.out)) hb); clear BK346; clear HB; have BK346 := n0_; have HB := n1_; clear n0_ n1_; (try clear hb); (try clear hb2); (try clear hk); (try clear hi)))
                        go_ret
                        exact ⟨by first | rfl | (simp [errW_none, errW_some] <;> rfl) | (simp [*, errW_none, errW_some] <;> rfl) | (simp; (generalize ByteArray.toList _ = z_); cases z_ <;> rfl), by repeat (first | (with_reducible first | exact HB.out | apply below_alloc | apply pw_below_drewN | apply below_drew1 | refine below_set ?_ GE346.out) | exact HB.out)⟩
                    · replace c26 := Bool.eq_false_iff.mpr c26
                      subst c26
                      have H1 : (some 111) = some r := by rw [if_neg (show ¬ (false = true) by decide)] at H; exact H
                      clear H
                      have H := H1
                      clear H1
                      obtain rfl := Option.some.inj H
                      have hcz32_0 : wc.cell? ⟨gb346, 0, none⟩ = some (.string a0_0) := (blk_cell BK346.out 0).trans rfl
                      have hcz32_1 : wc.cell? ⟨gb346, 1, none⟩ = some (.string a0_1) := (blk_cell BK346.out 1).trans rfl
                      have hcz32_2 : wc.cell? ⟨gb346, 2, none⟩ = some (.int .i64 a0_2) := (blk_cell BK346.out 2).trans rfl
                      have hcz32_3 : wc.cell? ⟨gb346, 3, none⟩ = some (.bool a0_3) := (blk_cell BK346.out 3).trans rfl
                      have hcz32_4 : wc.cell? ⟨gb346, 4, none⟩ = some (.string a0_4) := (blk_cell BK346.out 4).trans rfl
                      have hcz32_5 : wc.cell? ⟨gb346, 5, none⟩ = some (.slice A0_5 l0_5.length c0_5) := (blk_cell BK346.out 5).trans rfl
                      have hfz32_0 := blk_frozen BK346.out 0
                      have hfz32_1 := blk_frozen BK346.out 1
                      have hfz32_2 := blk_frozen BK346.out 2
                      have hfz32_3 := blk_frozen BK346.out 3
                      have hfz32_4 := blk_frozen BK346.out 4
                      have hfz32_5 := blk_frozen BK346.out 5
                      go_wp2_with (first | ((with_reducible refine gate_callee (f := 58) rfl ?_); refine goesL_ (some 37) rfl rfl Tryz.func58 (by kernel_rfl) rfl #[.string a0_0, .int .u8 33, .int .u8 126, .int .i64 1, .int .i64 64] rfl (by (try simp only [List.map_toArray, List.map_cons, List.map_nil]); first | done | rfl | (simp only [List.length_drop, List.length_take]; rfl)) ?_; (with_reducible refine (wicketref11_bytes.calls kj11 a0_0 33 126 1 64 true _ A18.out).mono ?_); rintro e w' ⟨rfl, ⟨nd, rfl⟩⟩; refine ⟨_, rfl, ?_⟩) | (go_at_call 58; (with_reducible refine (wicketref11_bytes.calls kj11 a0_1 32 126 0 256 true _ A20.out).mono ?_); rintro e w' ⟨rfl, ⟨nd, rfl⟩⟩) | (go_at_call 59; (with_reducible refine (wicketref11_url.calls kj11 a0_0 a0_1 a0_2 a0_3 a0_4 _ _ l0_5 false _ ?side1 ?side2 A25.out).mono ?_); (case side1 => repeat (first | exact (Kd.C_below HR0_5.out (by repeat (first | (with_reducible first | exact HB.out | apply below_alloc | apply pw_below_drewN | apply below_drew1 | refine below_set ?_ GE346.out) | exact HB.out))) | (with_reducible refine Kd.C_alloc ?_ _) | (with_reducible refine Kd.C_drewN ?_ _) | (with_reducible refine Kd.C_drew ?_))); (case side2 => exact HC0_5.out); rintro e w33 ⟨rfl, hb⟩; have n0_ := Aside0.mk (blk_below (g := gb346) (o := .cells #[.string a0_0, .string a0_1, .int .i64 a0_2, .bool a0_3, .string a0_4, .slice A0_5 l0_5.length c0_5] 43 (0, 0)) (by (with_reducible repeat (first | refine blk_drewN ?_ _ | refine blk_drew ?_ | refine blk_alloc ?_ _)); exact BK346.out) hb); have n1_ := Aside0.mk (below_step (by repeat (first | (with_reducible first | exact HB.out | apply below_alloc | apply pw_below_drewN | apply below_drew1 | refine below_set ?_ GE346.out) | exact HB.out)) hb); clear BK346; clear HB; have BK346 := n0_; have HB := n1_; clear n0_ n1_; (try clear hb); (try clear hb2); (try clear hk); (try clear hi)))
                      go_ret
                      exact ⟨by first | rfl | (simp [errW_none, errW_some] <;> rfl) | (simp [*, errW_none, errW_some] <;> rfl) | (simp; (generalize ByteArray.toList _ = z_); cases z_ <;> rfl), by repeat (first | (with_reducible first | exact HB.out | apply below_alloc | apply pw_below_drewN | apply below_drew1 | refine below_set ?_ GE346.out) | exact HB.out)⟩
                  · replace c24 := Bool.eq_false_iff.mpr c24
                    subst c24
                    have H1 : (some 111) = some r := by rw [if_neg (show ¬ (false = true) by decide)] at H; exact H
                    clear H
                    have H := H1
                    clear H1
                    obtain rfl := Option.some.inj H
                    have hcz34_0 : wc.cell? ⟨gb346, 0, none⟩ = some (.string a0_0) := (blk_cell BK346.out 0).trans rfl
                    have hcz34_1 : wc.cell? ⟨gb346, 1, none⟩ = some (.string a0_1) := (blk_cell BK346.out 1).trans rfl
                    have hcz34_2 : wc.cell? ⟨gb346, 2, none⟩ = some (.int .i64 a0_2) := (blk_cell BK346.out 2).trans rfl
                    have hcz34_3 : wc.cell? ⟨gb346, 3, none⟩ = some (.bool a0_3) := (blk_cell BK346.out 3).trans rfl
                    have hcz34_4 : wc.cell? ⟨gb346, 4, none⟩ = some (.string a0_4) := (blk_cell BK346.out 4).trans rfl
                    have hcz34_5 : wc.cell? ⟨gb346, 5, none⟩ = some (.slice A0_5 l0_5.length c0_5) := (blk_cell BK346.out 5).trans rfl
                    have hfz34_0 := blk_frozen BK346.out 0
                    have hfz34_1 := blk_frozen BK346.out 1
                    have hfz34_2 := blk_frozen BK346.out 2
                    have hfz34_3 := blk_frozen BK346.out 3
                    have hfz34_4 := blk_frozen BK346.out 4
                    have hfz34_5 := blk_frozen BK346.out 5
                    go_wp2_with (first | ((with_reducible refine gate_callee (f := 58) rfl ?_); refine goesL_ (some 37) rfl rfl Tryz.func58 (by kernel_rfl) rfl #[.string a0_0, .int .u8 33, .int .u8 126, .int .i64 1, .int .i64 64] rfl (by (try simp only [List.map_toArray, List.map_cons, List.map_nil]); first | done | rfl | (simp only [List.length_drop, List.length_take]; rfl)) ?_; (with_reducible refine (wicketref11_bytes.calls kj11 a0_0 33 126 1 64 true _ A18.out).mono ?_); rintro e w' ⟨rfl, ⟨nd, rfl⟩⟩; refine ⟨_, rfl, ?_⟩) | (go_at_call 58; (with_reducible refine (wicketref11_bytes.calls kj11 a0_1 32 126 0 256 true _ A20.out).mono ?_); rintro e w' ⟨rfl, ⟨nd, rfl⟩⟩))
                    go_ret
                    exact ⟨by first | rfl | (simp [errW_none, errW_some] <;> rfl) | (simp [*, errW_none, errW_some] <;> rfl) | (simp; (generalize ByteArray.toList _ = z_); cases z_ <;> rfl), by repeat (first | (with_reducible first | exact HB.out | apply below_alloc | apply pw_below_drewN | apply below_drew1 | refine below_set ?_ GE346.out) | exact HB.out)⟩
                · rw [if_neg c23] at H
                  have c23b0 : decide (a0_2 ≤ 3) = false := decide_eq_false c23
                  clear c23
                  obtain rfl := Option.some.inj H
                  have hcz35_0 : wc.cell? ⟨gb346, 0, none⟩ = some (.string a0_0) := (blk_cell BK346.out 0).trans rfl
                  have hcz35_1 : wc.cell? ⟨gb346, 1, none⟩ = some (.string a0_1) := (blk_cell BK346.out 1).trans rfl
                  have hcz35_2 : wc.cell? ⟨gb346, 2, none⟩ = some (.int .i64 a0_2) := (blk_cell BK346.out 2).trans rfl
                  have hcz35_3 : wc.cell? ⟨gb346, 3, none⟩ = some (.bool a0_3) := (blk_cell BK346.out 3).trans rfl
                  have hcz35_4 : wc.cell? ⟨gb346, 4, none⟩ = some (.string a0_4) := (blk_cell BK346.out 4).trans rfl
                  have hcz35_5 : wc.cell? ⟨gb346, 5, none⟩ = some (.slice A0_5 l0_5.length c0_5) := (blk_cell BK346.out 5).trans rfl
                  have hfz35_0 := blk_frozen BK346.out 0
                  have hfz35_1 := blk_frozen BK346.out 1
                  have hfz35_2 := blk_frozen BK346.out 2
                  have hfz35_3 := blk_frozen BK346.out 3
                  have hfz35_4 := blk_frozen BK346.out 4
                  have hfz35_5 := blk_frozen BK346.out 5
                  go_wp2_with (first | ((with_reducible refine gate_callee (f := 58) rfl ?_); refine goesL_ (some 37) rfl rfl Tryz.func58 (by kernel_rfl) rfl #[.string a0_0, .int .u8 33, .int .u8 126, .int .i64 1, .int .i64 64] rfl (by (try simp only [List.map_toArray, List.map_cons, List.map_nil]); first | done | rfl | (simp only [List.length_drop, List.length_take]; rfl)) ?_; (with_reducible refine (wicketref11_bytes.calls kj11 a0_0 33 126 1 64 true _ A18.out).mono ?_); rintro e w' ⟨rfl, ⟨nd, rfl⟩⟩; refine ⟨_, rfl, ?_⟩) | (go_at_call 58; (with_reducible refine (wicketref11_bytes.calls kj11 a0_1 32 126 0 256 true _ A20.out).mono ?_); rintro e w' ⟨rfl, ⟨nd, rfl⟩⟩))
                  go_ret
                  exact ⟨by first | rfl | (simp [errW_none, errW_some] <;> rfl) | (simp [*, errW_none, errW_some] <;> rfl) | (simp; (generalize ByteArray.toList _ = z_); cases z_ <;> rfl), by repeat (first | (with_reducible first | exact HB.out | apply below_alloc | apply pw_below_drewN | apply below_drew1 | refine below_set ?_ GE346.out) | exact HB.out)⟩
              · rw [if_neg c22] at H
                have c22b0 : decide (1 ≤ a0_2) = false := decide_eq_false c22
                clear c22
                obtain rfl := Option.some.inj H
                have hcz36_0 : wc.cell? ⟨gb346, 0, none⟩ = some (.string a0_0) := (blk_cell BK346.out 0).trans rfl
                have hcz36_1 : wc.cell? ⟨gb346, 1, none⟩ = some (.string a0_1) := (blk_cell BK346.out 1).trans rfl
                have hcz36_2 : wc.cell? ⟨gb346, 2, none⟩ = some (.int .i64 a0_2) := (blk_cell BK346.out 2).trans rfl
                have hcz36_3 : wc.cell? ⟨gb346, 3, none⟩ = some (.bool a0_3) := (blk_cell BK346.out 3).trans rfl
                have hcz36_4 : wc.cell? ⟨gb346, 4, none⟩ = some (.string a0_4) := (blk_cell BK346.out 4).trans rfl
                have hcz36_5 : wc.cell? ⟨gb346, 5, none⟩ = some (.slice A0_5 l0_5.length c0_5) := (blk_cell BK346.out 5).trans rfl
                have hfz36_0 := blk_frozen BK346.out 0
                have hfz36_1 := blk_frozen BK346.out 1
                have hfz36_2 := blk_frozen BK346.out 2
                have hfz36_3 := blk_frozen BK346.out 3
                have hfz36_4 := blk_frozen BK346.out 4
                have hfz36_5 := blk_frozen BK346.out 5
                go_wp2_with (first | ((with_reducible refine gate_callee (f := 58) rfl ?_); refine goesL_ (some 37) rfl rfl Tryz.func58 (by kernel_rfl) rfl #[.string a0_0, .int .u8 33, .int .u8 126, .int .i64 1, .int .i64 64] rfl (by (try simp only [List.map_toArray, List.map_cons, List.map_nil]); first | done | rfl | (simp only [List.length_drop, List.length_take]; rfl)) ?_; (with_reducible refine (wicketref11_bytes.calls kj11 a0_0 33 126 1 64 true _ A18.out).mono ?_); rintro e w' ⟨rfl, ⟨nd, rfl⟩⟩; refine ⟨_, rfl, ?_⟩) | (go_at_call 58; (with_reducible refine (wicketref11_bytes.calls kj11 a0_1 32 126 0 256 true _ A20.out).mono ?_); rintro e w' ⟨rfl, ⟨nd, rfl⟩⟩))
                go_ret
                exact ⟨by first | rfl | (simp [errW_none, errW_some] <;> rfl) | (simp [*, errW_none, errW_some] <;> rfl) | (simp; (generalize ByteArray.toList _ = z_); cases z_ <;> rfl), by repeat (first | (with_reducible first | exact HB.out | apply below_alloc | apply pw_below_drewN | apply below_drew1 | refine below_set ?_ GE346.out) | exact HB.out)⟩
            · replace c21 := Bool.eq_false_iff.mpr c21
              subst c21
              have H1 : (some 111) = some r := by rw [if_neg (show ¬ (false = true) by decide)] at H; exact H
              clear H
              have H := H1
              clear H1
              obtain rfl := Option.some.inj H
              have hcz37_0 : wc.cell? ⟨gb346, 0, none⟩ = some (.string a0_0) := (blk_cell BK346.out 0).trans rfl
              have hcz37_1 : wc.cell? ⟨gb346, 1, none⟩ = some (.string a0_1) := (blk_cell BK346.out 1).trans rfl
              have hcz37_2 : wc.cell? ⟨gb346, 2, none⟩ = some (.int .i64 a0_2) := (blk_cell BK346.out 2).trans rfl
              have hcz37_3 : wc.cell? ⟨gb346, 3, none⟩ = some (.bool a0_3) := (blk_cell BK346.out 3).trans rfl
              have hcz37_4 : wc.cell? ⟨gb346, 4, none⟩ = some (.string a0_4) := (blk_cell BK346.out 4).trans rfl
              have hcz37_5 : wc.cell? ⟨gb346, 5, none⟩ = some (.slice A0_5 l0_5.length c0_5) := (blk_cell BK346.out 5).trans rfl
              have hfz37_0 := blk_frozen BK346.out 0
              have hfz37_1 := blk_frozen BK346.out 1
              have hfz37_2 := blk_frozen BK346.out 2
              have hfz37_3 := blk_frozen BK346.out 3
              have hfz37_4 := blk_frozen BK346.out 4
              have hfz37_5 := blk_frozen BK346.out 5
              go_wp2_with (first | ((with_reducible refine gate_callee (f := 58) rfl ?_); refine goesL_ (some 37) rfl rfl Tryz.func58 (by kernel_rfl) rfl #[.string a0_0, .int .u8 33, .int .u8 126, .int .i64 1, .int .i64 64] rfl (by (try simp only [List.map_toArray, List.map_cons, List.map_nil]); first | done | rfl | (simp only [List.length_drop, List.length_take]; rfl)) ?_; (with_reducible refine (wicketref11_bytes.calls kj11 a0_0 33 126 1 64 true _ A18.out).mono ?_); rintro e w' ⟨rfl, ⟨nd, rfl⟩⟩; refine ⟨_, rfl, ?_⟩) | (go_at_call 58; (with_reducible refine (wicketref11_bytes.calls kj11 a0_1 32 126 0 256 false _ A20.out).mono ?_); rintro e w' ⟨rfl, ⟨nd, rfl⟩⟩))
              go_ret
              exact ⟨by first | rfl | (simp [errW_none, errW_some] <;> rfl) | (simp [*, errW_none, errW_some] <;> rfl) | (simp; (generalize ByteArray.toList _ = z_); cases z_ <;> rfl), by repeat (first | (with_reducible first | exact HB.out | apply below_alloc | apply pw_below_drewN | apply below_drew1 | refine below_set ?_ GE346.out) | exact HB.out)⟩
          · replace c19 := Bool.eq_false_iff.mpr c19
            subst c19
            have H1 : (some 111) = some r := by rw [if_neg (show ¬ (false = true) by decide)] at H; exact H
            clear H
            have H := H1
            clear H1
            obtain rfl := Option.some.inj H
            have hcz38_0 : wc.cell? ⟨gb346, 0, none⟩ = some (.string a0_0) := (blk_cell BK346.out 0).trans rfl
            have hcz38_1 : wc.cell? ⟨gb346, 1, none⟩ = some (.string a0_1) := (blk_cell BK346.out 1).trans rfl
            have hcz38_2 : wc.cell? ⟨gb346, 2, none⟩ = some (.int .i64 a0_2) := (blk_cell BK346.out 2).trans rfl
            have hcz38_3 : wc.cell? ⟨gb346, 3, none⟩ = some (.bool a0_3) := (blk_cell BK346.out 3).trans rfl
            have hcz38_4 : wc.cell? ⟨gb346, 4, none⟩ = some (.string a0_4) := (blk_cell BK346.out 4).trans rfl
            have hcz38_5 : wc.cell? ⟨gb346, 5, none⟩ = some (.slice A0_5 l0_5.length c0_5) := (blk_cell BK346.out 5).trans rfl
            have hfz38_0 := blk_frozen BK346.out 0
            have hfz38_1 := blk_frozen BK346.out 1
            have hfz38_2 := blk_frozen BK346.out 2
            have hfz38_3 := blk_frozen BK346.out 3
            have hfz38_4 := blk_frozen BK346.out 4
            have hfz38_5 := blk_frozen BK346.out 5
            go_wp2_with (first | ((with_reducible refine gate_callee (f := 58) rfl ?_); refine goesL_ (some 37) rfl rfl Tryz.func58 (by kernel_rfl) rfl #[.string a0_0, .int .u8 33, .int .u8 126, .int .i64 1, .int .i64 64] rfl (by (try simp only [List.map_toArray, List.map_cons, List.map_nil]); first | done | rfl | (simp only [List.length_drop, List.length_take]; rfl)) ?_; (with_reducible refine (wicketref11_bytes.calls kj11 a0_0 33 126 1 64 false _ A18.out).mono ?_); rintro e w' ⟨rfl, ⟨nd, rfl⟩⟩; refine ⟨_, rfl, ?_⟩))
            go_ret
            exact ⟨by first | rfl | (simp [errW_none, errW_some] <;> rfl) | (simp [*, errW_none, errW_some] <;> rfl) | (simp; (generalize ByteArray.toList _ = z_); cases z_ <;> rfl), by repeat (first | (with_reducible first | exact HB.out | apply below_alloc | apply pw_below_drewN | apply below_drew1 | refine below_set ?_ GE346.out) | exact HB.out)⟩

end Go.Proofs.YtmimipgmhgalaaaGreatDoor.PAll
