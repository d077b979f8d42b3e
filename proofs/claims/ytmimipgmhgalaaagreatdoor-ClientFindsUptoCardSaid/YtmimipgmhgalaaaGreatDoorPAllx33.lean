-- Printed by myprint.py, this session's own wrapper over the kit's print, out of the translation. Lean checks it.
import Derived.Test.YtmimipgmhgalaaaGreatDoorPAllx0
namespace Go.Proofs.YtmimipgmhgalaaaGreatDoor.PAll
open Go.RowKit Go.Proofs.YtmimipgmhgalaaaGreatDoorW.PrintWords Go.Proofs.YtmimipgmhgalaaaGreatDoorW.PrintLast Go.Proofs.YtmimipgmhgalaaaGreatDoorW.PrintMore
attribute [local go_sem] max2_int min2_int max_two min_two max_three min_three max_four min_four   -- for this text's walks alone
set_option linter.unusedVariables false
set_option linter.unusedSimpArgs false

/-! ### wicketref11_Find: function 30 -/
def wicketref11_Find.l0 : Nat → List (S43) → ByteArray → Int → Option (ByteArray × ByteArray × Int × Bool × ByteArray × List ByteArray × Bool)
  | 0, _, _, _ => none
  | k + 1, x0, x1, x6 => if x6 < (x0.length : Int) then (if 0 ≤ x6 then (if ((rd_T43 x0 x6).f0).toList = x1.toList then (some ((rd_T43 x0 x6).f0, (rd_T43 x0 x6).f1, (rd_T43 x0 x6).f2, (rd_T43 x0 x6).f3, (rd_T43 x0 x6).f4, (rd_T43 x0 x6).f5, true)) else (wicketref11_Find.l0 k x0 x1 (wrap64 (x6 + 1)))) else (none)) else (some ((⟨#[]⟩ : ByteArray), (⟨#[]⟩ : ByteArray), 0, false, (⟨#[]⟩ : ByteArray), ([] : List ByteArray), false))
def wicketref11_Find.f (k : Nat) (l0 : List (S43)) (a1 : ByteArray) : Option (ByteArray × ByteArray × Int × Bool × ByteArray × List ByteArray × Bool) := wicketref11_Find.l0 k l0 a1 0
theorem wicketref11_Find.mono_l : ∀ k, (∀ y0 y1 y2, LeO (wicketref11_Find.l0 k y0 y1 y2) (wicketref11_Find.l0 (k + 1) y0 y1 y2))
  | 0 => fun _ _ _ r h => by simp [wicketref11_Find.l0] at h
  | k + 1 => by
    have ih0 := wicketref11_Find.mono_l k
    · intro y0 y1 y2
      unfold wicketref11_Find.l0
      repeat' first
      | (with_reducible exact ih0 _ _ _)
      | (with_reducible exact LeO.refl _)
      | (with_reducible exact LeO.none _)
      | (with_reducible refine LeO.ite ?_ ?_)
      | (with_reducible refine LeO.bind ?_ (fun _ => ?_))
      | exact ih0 _ _ _
      | exact LeO.none _
      | refine LeO.ite ?_ ?_
      | refine LeO.bind ?_ (fun _ => ?_)
theorem wicketref11_Find.mono : ∀ a0 a1 k, LeO (wicketref11_Find.f k a0 a1) (wicketref11_Find.f (k + 1) a0 a1) := by
  intro a0 a1 k
  have ih0 := wicketref11_Find.mono_l k
  unfold wicketref11_Find.f
  repeat' first
      | (with_reducible exact ih0 _ _ _)
      | (with_reducible exact LeO.refl _)
      | (with_reducible exact LeO.none _)
      | (with_reducible refine LeO.ite ?_ ?_)
      | (with_reducible refine LeO.bind ?_ (fun _ => ?_))
      | exact ih0 _ _ _
      | exact LeO.none _
      | refine LeO.ite ?_ ?_
      | refine LeO.bind ?_ (fun _ => ?_)
set_option maxHeartbeats 8000000 in
set_option maxRecDepth 100000 in
theorem wicketref11_Find.calls (k : Nat) (P0_ : Nat → Prop) (A0 : Option Addr) (c0 : Nat) (l0 : List (S43)) (a1 : ByteArray) (r1 : ByteArray) (r2 : ByteArray) (r3 : Int) (r4 : Bool) (r5 : ByteArray) (r6 : List ByteArray) (r7 : Bool) (w : World) (hs0 : Kd.V k43 43 w w.heap.size (fun k_ => P0_ k_) (.slice A0 l0.length c0) l0) (h : wicketref11_Find.f k l0 a1 = some (r1, r2, r3, r4, r5, r6, r7)) :
    Calls Tryz.prog 30 #[.slice A0 l0.length c0, .string a1] w fun e w' => ∃ v5_ : Value, e = .returned (.tuple #[.agg #[.string r1, .string r2, .int .i64 r3, .bool r4, .string r5, v5_], .bool r7]) ∧ Kd.V Kd.string 9 w' w.heap.size (fun k_ => (P0_ k_ ∨ w.heap.size ≤ k_)) v5_ r6 ∧ Below w.heap.size w w' := by
  have hu43 := Tryz.underlying43
  have HO0 := Aside0.mk (show Kd.V k43 43 w w.heap.size (fun k_ => (P0_ k_ ∨ w.heap.size ≤ k_)) (.slice A0 l0.length c0) l0 from Kd.V_mono hs0 (fun k_ hk => .inl hk))
  have HB := Aside0.mk (Below.refl w.heap.size w)
  have H : (wicketref11_Find.l0 k l0 a1 0) = some (r1, r2, r3, r4, r5, r6, r7) := h
  clear h
  have H' := Aside0.mk H
  clear H
  go_enter Tryz.func30, Tryz.ntmps30
  go_wp2_with (first | ((with_reducible refine gate_dst (N := 4) rfl ?_); refine box_event ?hg (N := 4) ?hd (cs := #[.string (⟨#[]⟩ : ByteArray), .string (⟨#[]⟩ : ByteArray), .int .i64 0, .bool false, .string (⟨#[]⟩ : ByteArray), .slice none 0 0]) (t := 43) ?hr ?_; (case hd => rfl); (case hg => rfl); (case hr => first | (go_simp; done) | (go_simp; rfl)); intro gb519 hg w3 hbox hb; have n0_ := Aside0.mk (Kd.V_below (Kd.V_elderB (by (with_reducible repeat (first | apply Kd.V_alloc | apply Kd.V_drewN | apply Kd.V_drew)); exact HO0.out) gb519 (Nat.le_of_eq hg.symm)) hb); have n1_ := Aside0.mk (below_step (by repeat (first | (with_reducible first | exact HB.out | apply below_alloc | apply pw_below_drewN | apply below_drew1) | exact HB.out)) hb); have n2_ := Aside0.mk (hbox); have n3_ := Aside0.mk ((by rw [hg]; exact (below_size (by repeat (first | (with_reducible first | exact HB.out | apply below_alloc | apply pw_below_drewN | apply below_drew1) | exact HB.out))) : w.heap.size ≤ gb519)); have n4_ := Aside0.mk ((by rw [hg]; exact (below_size (by repeat (first | (with_reducible first | exact HB.out | apply below_alloc | apply pw_below_drewN | apply below_drew1) | exact HB.out))) : w.heap.size ≤ gb519)); clear HO0; clear HB; have HO0 := n0_; have HB := n1_; have BK519 := n2_; have GW519 := n3_; have GE519 := n4_; clear n0_ n1_ n2_ n3_ n4_; clear hb hbox hg))
  go_loopg [6] k (fun kq v6 w' => ∃ (x6_1 : Int) (x520000_1 : ByteArray) (x520001_1 : ByteArray) (x520002_1 : Int) (x520003_1 : Bool) (x520004_1 : ByteArray), v6 = .int .i64 x6_1 ∧ Aside0 (wicketref11_Find.l0 kq l0 a1 x6_1 = some (r1, r2, r3, r4, r5, r6, r7)) ∧ Aside0 (kq ≤ k) ∧ Aside0 (Kd.V k43 43 w' w.heap.size (fun k_ => (P0_ k_ ∨ w.heap.size ≤ k_) ∧ k_ ≠ gb519) (.slice A0 l0.length c0) l0) ∧ Aside0 (w'.heap[gb519]? = some (.cells #[.string x520000_1, .string x520001_1, .int .i64 x520002_1, .bool x520003_1, .string x520004_1, (.slice none 0 0)] 43 (0, 0))) ∧ Aside0 (Below w.heap.size w w'))
  case atStart => exact ⟨(0), ((⟨#[]⟩ : ByteArray)), ((⟨#[]⟩ : ByteArray)), (0), (false), ((⟨#[]⟩ : ByteArray)), (by first | rfl | (simp; done) | (simp [*]; done) | (simp; (generalize ByteArray.toList _ = z_); cases z_ <;> rfl)), H', ⟨Nat.le_refl _⟩, ⟨by (with_reducible repeat (first | apply Kd.V_alloc | apply Kd.V_drewN | apply Kd.V_drew)); exact HO0.out⟩, ⟨by (with_reducible repeat (first | refine blk_drewN ?_ _ | refine blk_drew ?_ | refine blk_alloc ?_ _)); exact BK519.out⟩, ⟨by repeat (first | (with_reducible first | exact HB.out | apply below_alloc | apply pw_below_drewN | apply below_drew1 | refine below_set ?_ GE519.out) | exact HB.out)⟩⟩
  case round =>
    clear H'
    try clear p2
    try clear c3
    obtain ⟨x6_1, x520000_1, x520001_1, x520002_1, x520003_1, x520004_1, rfl, HA, HK1, HO_0, BK519, HB⟩ := hrel
    cases gk with
    | zero => exact absurd HA.out (by simp [wicketref11_Find.l0])
    | succ k1 =>
      have H := HA.out
      clear HA
      simp only [wicketref11_Find.l0] at H
      by_cases c4 : x6_1 < (l0.length : Int)
      · rw [if_pos c4] at H
        have c4b0 : decide (x6_1 < (l0.length : Int)) = true := decide_eq_true c4
        clear c4
        by_cases c5 : 0 ≤ x6_1
        · rw [if_pos c5] at H
          have c5b0 : decide (0 ≤ x6_1) = true := decide_eq_true c5
          clear c5
          by_cases c6 : ((rd_T43 l0 x6_1).f0).toList = a1.toList
          · rw [if_pos c6] at H
            have c6b0 : (((rd_T43 l0 x6_1).f0).toList == a1.toList) = true := beq_iff_eq.mpr c6
            have c6b1 : (((rd_T43 l0 x6_1).f0).toList != a1.toList) = false := bne_eq_false_iff_eq.mpr c6
            clear c6
            simp only [Option.some.injEq, Prod.mk.injEq] at H
            obtain ⟨rfl, rfl, rfl, rfl, rfl, rfl, rfl⟩ := H
            have p520 : 0 ≤ (x6_1 : Int) := of_decide_eq_true (by first | (with_reducible assumption) | assumption)
            have q520 : x6_1 < (l0.length : Int) := of_decide_eq_true (by first | (with_reducible assumption) | assumption)
            obtain ⟨ad520, A520_5, c520_5, e520, hx520_0, hx520_1, hx520_2, hx520_3, hx520_4, hx520_5, hl520_5, hi520_5⟩ := at_T43 (Kd.V_reads' HO_0.out).2.2 x6_1 p520 q520
            cases e520
            obtain ⟨ce520, hce520, hMe520, hcc520⟩ := Kd.V_get HO_0.out z43 x6_1 p520 (by first | exact q520 | exact of_decide_eq_true (by first | (with_reducible assumption) | assumption) | (have e_ := (Kd.V_reads' HO_0.out).1; omega))
            obtain ⟨ua520_5, uc520_5, rfl, ul520_5, ge520_5⟩ := k43_openF hMe520
            have hv520_5 := hcc520 5 _ rfl
            rw [add_field _ _ 5 (by omega)] at hv520_5
            replace hv520_5 := Option.some.inj (hv520_5.symm.trans hx520_5)
            injection hv520_5 with hva_ hvn_ hvc_
            rw [hva_] at ge520_5
            rw [hvc_] at ul520_5
            have HL520_5 := Aside0.mk (show Kd.V Kd.string 9 _ w.heap.size _ _ ((rd_T43 l0 x6_1).f5) from Kd.V_mk ul520_5 ge520_5)
            clear hva_ hvn_ hvc_ ge520_5 ul520_5
            clear hcc520 hce520
            have HR520_5 := Aside0.mk hi520_5
            have HC520_5 := Aside0.mk hl520_5
            clear hi520_5 hl520_5
            replace p520 := eq_true p520
            replace q520 := eq_true q520
            have p521 : 0 ≤ (x6_1 : Int) := of_decide_eq_true (by first | (with_reducible assumption) | assumption)
            have q521 : x6_1 < (l0.length : Int) := of_decide_eq_true (by first | (with_reducible assumption) | assumption)
            obtain ⟨ad521, A521_5, c521_5, e521, hx521_0, hx521_1, hx521_2, hx521_3, hx521_4, hx521_5, hl521_5, hi521_5⟩ := at_T43 (Kd.V_reads' HO_0.out).2.2 x6_1 p521 q521
            obtain rfl : ad520 = ad521 := (by injection e521)
            obtain ⟨ce521, hce521, hMe521, hcc521⟩ := Kd.V_get HO_0.out z43 x6_1 p521 (by first | exact q521 | exact of_decide_eq_true (by first | (with_reducible assumption) | assumption) | (have e_ := (Kd.V_reads' HO_0.out).1; omega))
            obtain ⟨ua521_5, uc521_5, rfl, ul521_5, ge521_5⟩ := k43_openF hMe521
            have hv521_5 := hcc521 5 _ rfl
            rw [add_field _ _ 5 (by omega)] at hv521_5
            replace hv521_5 := Option.some.inj (hv521_5.symm.trans hx521_5)
            injection hv521_5 with hva_ hvn_ hvc_
            rw [hva_] at ge521_5
            rw [hvc_] at ul521_5
            have HL521_5 := Aside0.mk (show Kd.V Kd.string 9 _ w.heap.size _ _ ((rd_T43 l0 x6_1).f5) from Kd.V_mk ul521_5 ge521_5)
            clear hva_ hvn_ hvc_ ge521_5 ul521_5
            clear hcc521 hce521
            have HR521_5 := Aside0.mk hi521_5
            have HC521_5 := Aside0.mk hl521_5
            clear hi521_5 hl521_5
            replace p521 := eq_true p521
            replace q521 := eq_true q521
            have ea_ := Option.some.inj (hx520_5.symm.trans hx521_5)
            injection ea_ with ea_ en_ ec_
            subst ea_
            subst ec_
            clear en_
            have hcz7_0 : wr.cell? ⟨gb519, 0, none⟩ = some (.string x520000_1) := (blk_cell BK519.out 0).trans rfl
            have hcz7_1 : wr.cell? ⟨gb519, 1, none⟩ = some (.string x520001_1) := (blk_cell BK519.out 1).trans rfl
            have hcz7_2 : wr.cell? ⟨gb519, 2, none⟩ = some (.int .i64 x520002_1) := (blk_cell BK519.out 2).trans rfl
            have hcz7_3 : wr.cell? ⟨gb519, 3, none⟩ = some (.bool x520003_1) := (blk_cell BK519.out 3).trans rfl
            have hcz7_4 : wr.cell? ⟨gb519, 4, none⟩ = some (.string x520004_1) := (blk_cell BK519.out 4).trans rfl
            have hcz7_5 : wr.cell? ⟨gb519, 5, none⟩ = some (.slice none 0 0) := (blk_cell BK519.out 5).trans rfl
            have hfz7_0 := blk_frozen BK519.out 0
            have hfz7_1 := blk_frozen BK519.out 1
            have hfz7_2 := blk_frozen BK519.out 2
            have hfz7_3 := blk_frozen BK519.out 3
            have hfz7_4 := blk_frozen BK519.out 4
            have hfz7_5 := blk_frozen BK519.out 5
            go_wp2
            refine bodyPost_ret (results_ct rfl _ _ gb519 43 #[.string ((rd_T43 l0 x6_1).f0), .string ((rd_T43 l0 x6_1).f1), .int .i64 ((rd_T43 l0 x6_1).f2), .bool ((rd_T43 l0 x6_1).f3), .string ((rd_T43 l0 x6_1).f4), .slice A520_5 ((rd_T43 l0 x6_1).f5).length c520_5] (0, 0) _ rfl (by (with_reducible repeat (first | refine blk_drewN ?_ _ | refine blk_drew ?_ | refine blk_alloc ?_ _)); refine blk_put (cs := #[.string ((rd_T43 l0 x6_1).f0), .string ((rd_T43 l0 x6_1).f1), .int .i64 ((rd_T43 l0 x6_1).f2), .bool ((rd_T43 l0 x6_1).f3), .string ((rd_T43 l0 x6_1).f4), .slice none 0 0]) ?_ 5 _ rfl; (with_reducible repeat (first | refine blk_drewN ?_ _ | refine blk_drew ?_ | refine blk_alloc ?_ _)); refine blk_put (cs := #[.string ((rd_T43 l0 x6_1).f0), .string ((rd_T43 l0 x6_1).f1), .int .i64 ((rd_T43 l0 x6_1).f2), .bool ((rd_T43 l0 x6_1).f3), .string x520004_1, .slice none 0 0]) ?_ 4 _ rfl; (with_reducible repeat (first | refine blk_drewN ?_ _ | refine blk_drew ?_ | refine blk_alloc ?_ _)); refine blk_put (cs := #[.string ((rd_T43 l0 x6_1).f0), .string ((rd_T43 l0 x6_1).f1), .int .i64 ((rd_T43 l0 x6_1).f2), .bool x520003_1, .string x520004_1, .slice none 0 0]) ?_ 3 _ rfl; (with_reducible repeat (first | refine blk_drewN ?_ _ | refine blk_drew ?_ | refine blk_alloc ?_ _)); refine blk_put (cs := #[.string ((rd_T43 l0 x6_1).f0), .string ((rd_T43 l0 x6_1).f1), .int .i64 x520002_1, .bool x520003_1, .string x520004_1, .slice none 0 0]) ?_ 2 _ rfl; (with_reducible repeat (first | refine blk_drewN ?_ _ | refine blk_drew ?_ | refine blk_alloc ?_ _)); refine blk_put (cs := #[.string ((rd_T43 l0 x6_1).f0), .string x520001_1, .int .i64 x520002_1, .bool x520003_1, .string x520004_1, .slice none 0 0]) ?_ 1 _ rfl; (with_reducible repeat (first | refine blk_drewN ?_ _ | refine blk_drew ?_ | refine blk_alloc ?_ _)); refine blk_put (cs := #[.string x520000_1, .string x520001_1, .int .i64 x520002_1, .bool x520003_1, .string x520004_1, .slice none 0 0]) ?_ 0 _ rfl; (with_reducible repeat (first | refine blk_drewN ?_ _ | refine blk_drew ?_ | refine blk_alloc ?_ _)); exact BK519.out) Tryz.underlying43 rfl (by kernel_rfl)) rfl ?_
            exact ⟨_, by first | rfl | (simp [errW_none, errW_some] <;> rfl) | (simp [*, errW_none, errW_some] <;> rfl) | (simp; (generalize ByteArray.toList _ = z_); cases z_ <;> rfl), by (with_reducible repeat (first | apply Kd.V_alloc | apply Kd.V_drewN | apply Kd.V_drew)); exact Kd.V_mono (Kd.V_far (p := ⟨gb519, 5, none⟩) (Kd.V_far (p := ⟨gb519, 4, none⟩) (Kd.V_far (p := ⟨gb519, 3, none⟩) (Kd.V_far (p := ⟨gb519, 2, none⟩) (Kd.V_far (p := ⟨gb519, 1, none⟩) (Kd.V_far (p := ⟨gb519, 0, none⟩) (Kd.V_mono HL521_5.out (fun k_ hk => (⟨hk, hk.2⟩ : _ ∧ k_ ≠ gb519))) (fun _ hk => hk.2) (.string ((rd_T43 l0 x6_1).f0))) (fun _ hk => hk.2) (.string ((rd_T43 l0 x6_1).f1))) (fun _ hk => hk.2) (.int .i64 ((rd_T43 l0 x6_1).f2))) (fun _ hk => hk.2) (.bool ((rd_T43 l0 x6_1).f3))) (fun _ hk => hk.2) (.string ((rd_T43 l0 x6_1).f4))) (fun _ hk => hk.2) (.slice A520_5 ((rd_T43 l0 x6_1).f5).length c520_5)) (fun _ hk => hk.1.1), by repeat (first | (with_reducible first | exact HB.out | apply below_alloc | apply pw_below_drewN | apply below_drew1 | refine below_set ?_ GE519.out) | exact HB.out)⟩
          · rw [if_neg c6] at H
            have c6b0 : (((rd_T43 l0 x6_1).f0).toList == a1.toList) = false := beq_eq_false_iff_ne.mpr c6
            have c6b1 : (((rd_T43 l0 x6_1).f0).toList != a1.toList) = true := bne_iff_ne.mpr c6
            have H' := Aside0.mk H
            clear H
            have p520 : 0 ≤ (x6_1 : Int) := of_decide_eq_true (by first | (with_reducible assumption) | assumption)
            have q520 : x6_1 < (l0.length : Int) := of_decide_eq_true (by first | (with_reducible assumption) | assumption)
            obtain ⟨ad520, A520_5, c520_5, e520, hx520_0, hx520_1, hx520_2, hx520_3, hx520_4, hx520_5, hl520_5, hi520_5⟩ := at_T43 (Kd.V_reads' HO_0.out).2.2 x6_1 p520 q520
            cases e520
            obtain ⟨ce520, hce520, hMe520, hcc520⟩ := Kd.V_get HO_0.out z43 x6_1 p520 (by first | exact q520 | exact of_decide_eq_true (by first | (with_reducible assumption) | assumption) | (have e_ := (Kd.V_reads' HO_0.out).1; omega))
            obtain ⟨ua520_5, uc520_5, rfl, ul520_5, ge520_5⟩ := k43_openF hMe520
            have hv520_5 := hcc520 5 _ rfl
            rw [add_field _ _ 5 (by omega)] at hv520_5
            replace hv520_5 := Option.some.inj (hv520_5.symm.trans hx520_5)
            injection hv520_5 with hva_ hvn_ hvc_
            rw [hva_] at ge520_5
            rw [hvc_] at ul520_5
            have HL520_5 := Aside0.mk (show Kd.V Kd.string 9 _ w.heap.size _ _ ((rd_T43 l0 x6_1).f5) from Kd.V_mk ul520_5 ge520_5)
            clear hva_ hvn_ hvc_ ge520_5 ul520_5
            clear hcc520 hce520
            have HR520_5 := Aside0.mk hi520_5
            have HC520_5 := Aside0.mk hl520_5
            clear hi520_5 hl520_5
            replace p520 := eq_true p520
            replace q520 := eq_true q520
            go_wp2
            go_roundg k1
            case measure => have := HK1.out; omega
            case rel => exact ⟨(wrap64 (x6_1 + 1)), (x520000_1), (x520001_1), (x520002_1), (x520003_1), (x520004_1), (by first | rfl | (simp; done) | (simp [*]; done) | (simp; (generalize ByteArray.toList _ = z_); cases z_ <;> rfl)), H', ⟨by have := HK1.out; omega⟩, ⟨by (with_reducible repeat (first | apply Kd.V_alloc | apply Kd.V_drewN | apply Kd.V_drew)); exact HO_0.out⟩, ⟨by (with_reducible repeat (first | refine blk_drewN ?_ _ | refine blk_drew ?_ | refine blk_alloc ?_ _)); exact BK519.out⟩, ⟨by repeat (first | (with_reducible first | exact HB.out | apply below_alloc | apply pw_below_drewN | apply below_drew1 | refine below_set ?_ GE519.out) | exact HB.out)⟩⟩
        · rw [if_neg c5] at H
          exact absurd H (by simp)
      · rw [if_neg c4] at H
        have c4b0 : decide (x6_1 < (l0.length : Int)) = false := decide_eq_false c4
        clear c4
        simp only [Option.some.injEq, Prod.mk.injEq] at H
        obtain ⟨rfl, rfl, rfl, rfl, rfl, rfl, rfl⟩ := H
        have hcz8_0 : wr.cell? ⟨gb519, 0, none⟩ = some (.string x520000_1) := (blk_cell BK519.out 0).trans rfl
        have hcz8_1 : wr.cell? ⟨gb519, 1, none⟩ = some (.string x520001_1) := (blk_cell BK519.out 1).trans rfl
        have hcz8_2 : wr.cell? ⟨gb519, 2, none⟩ = some (.int .i64 x520002_1) := (blk_cell BK519.out 2).trans rfl
        have hcz8_3 : wr.cell? ⟨gb519, 3, none⟩ = some (.bool x520003_1) := (blk_cell BK519.out 3).trans rfl
        have hcz8_4 : wr.cell? ⟨gb519, 4, none⟩ = some (.string x520004_1) := (blk_cell BK519.out 4).trans rfl
        have hcz8_5 : wr.cell? ⟨gb519, 5, none⟩ = some (.slice none 0 0) := (blk_cell BK519.out 5).trans rfl
        have hfz8_0 := blk_frozen BK519.out 0
        have hfz8_1 := blk_frozen BK519.out 1
        have hfz8_2 := blk_frozen BK519.out 2
        have hfz8_3 := blk_frozen BK519.out 3
        have hfz8_4 := blk_frozen BK519.out 4
        have hfz8_5 := blk_frozen BK519.out 5
        go_wp2
        refine bodyPost_ret (results_ct rfl _ _ gb519 43 #[.string (⟨#[]⟩ : ByteArray), .string (⟨#[]⟩ : ByteArray), .int .i64 0, .bool false, .string (⟨#[]⟩ : ByteArray), .slice none 0 0] (0, 0) _ rfl (by (with_reducible repeat (first | refine blk_drewN ?_ _ | refine blk_drew ?_ | refine blk_alloc ?_ _)); refine blk_put (cs := #[.string (⟨#[]⟩ : ByteArray), .string (⟨#[]⟩ : ByteArray), .int .i64 0, .bool false, .string (⟨#[]⟩ : ByteArray), .slice none 0 0]) ?_ 5 _ rfl; (with_reducible repeat (first | refine blk_drewN ?_ _ | refine blk_drew ?_ | refine blk_alloc ?_ _)); refine blk_put (cs := #[.string (⟨#[]⟩ : ByteArray), .string (⟨#[]⟩ : ByteArray), .int .i64 0, .bool false, .string x520004_1, .slice none 0 0]) ?_ 4 _ rfl; (with_reducible repeat (first | refine blk_drewN ?_ _ | refine blk_drew ?_ | refine blk_alloc ?_ _)); refine blk_put (cs := #[.string (⟨#[]⟩ : ByteArray), .string (⟨#[]⟩ : ByteArray), .int .i64 0, .bool x520003_1, .string x520004_1, .slice none 0 0]) ?_ 3 _ rfl; (with_reducible repeat (first | refine blk_drewN ?_ _ | refine blk_drew ?_ | refine blk_alloc ?_ _)); refine blk_put (cs := #[.string (⟨#[]⟩ : ByteArray), .string (⟨#[]⟩ : ByteArray), .int .i64 x520002_1, .bool x520003_1, .string x520004_1, .slice none 0 0]) ?_ 2 _ rfl; (with_reducible repeat (first | refine blk_drewN ?_ _ | refine blk_drew ?_ | refine blk_alloc ?_ _)); refine blk_put (cs := #[.string (⟨#[]⟩ : ByteArray), .string x520001_1, .int .i64 x520002_1, .bool x520003_1, .string x520004_1, .slice none 0 0]) ?_ 1 _ rfl; (with_reducible repeat (first | refine blk_drewN ?_ _ | refine blk_drew ?_ | refine blk_alloc ?_ _)); refine blk_put (cs := #[.string x520000_1, .string x520001_1, .int .i64 x520002_1, .bool x520003_1, .string x520004_1, .slice none 0 0]) ?_ 0 _ rfl; (with_reducible repeat (first | refine blk_drewN ?_ _ | refine blk_drew ?_ | refine blk_alloc ?_ _)); exact BK519.out) Tryz.underlying43 rfl (by kernel_rfl)) rfl ?_
        exact ⟨_, by first | rfl | (simp [errW_none, errW_some] <;> rfl) | (simp [*, errW_none, errW_some] <;> rfl) | (simp; (generalize ByteArray.toList _ = z_); cases z_ <;> rfl), Kd.V_nil _ _ _ _ _, by repeat (first | (with_reducible first | exact HB.out | apply below_alloc | apply pw_below_drewN | apply below_drew1 | refine below_set ?_ GE519.out) | exact HB.out)⟩

-- FOREIGN: function 60 (wicketref11_line)

end Go.Proofs.YtmimipgmhgalaaaGreatDoor.PAll
