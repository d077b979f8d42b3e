/-
  Part 5 of what the proof of ClientPrints leans on: words of the print, walks of functions and plain laws; put together by pack.py, a program of this session.
-/
import Derived.Outline
import Derived.Test.YtmimipgmhgalaaaGreatDoorKClientPrintsd
section
namespace Go.Proofs.YtmimipgmhgalaaaGreatDoor.PAll
open Go.RowKit Go.Proofs.YtmimipgmhgalaaaGreatDoorW.PrintWords Go.Proofs.YtmimipgmhgalaaaGreatDoorW.PrintLast Go.Proofs.YtmimipgmhgalaaaGreatDoorW.PrintMore
attribute [local go_sem] max2_int min2_int max_two min_two max_three min_three max_four min_four
set_option linter.unusedVariables false
set_option linter.unusedSimpArgs false
def wicketlaw11_copied.l0 : Nat → List (S40) → List (S40) → Int → Option ((List (S40)))
 | 0, _, _, _ => none
 | k + 1, x0, x3, x4 => if x4 < (x0.length : Int) then (if 0 ≤ x4 then ((wicketlaw11_ours.f ((rd_T40 x0 x4).f0) ((rd_T40 x0 x4).f1) ((rd_T40 x0 x4).f2) ((rd_T40 x0 x4).f3) ((rd_T40 x0 x4).f4) ((rd_T40 x0 x4).f5)).bind fun bt278 => ((wicketlaw11_theirs.f bt278.1 bt278.2.1 bt278.2.2.1 bt278.2.2.2.1 bt278.2.2.2.2.1 bt278.2.2.2.2.2).bind fun bt286 => (if x3.length < 1599289640401 then (wicketlaw11_copied.l0 k x0 (x3 ++ [(⟨bt286.1, bt286.2.1, bt286.2.2.1, bt286.2.2.2.1, bt286.2.2.2.2.1, bt286.2.2.2.2.2⟩ : S40)]) (wrap64 (x4 + 1))) else (none)))) else (none)) else (some x3)
def wicketlaw11_copied.f (k : Nat) (l0 : List (S40)) : Option ((List (S40))) := wicketlaw11_copied.l0 k l0 ([] : List (S40)) 0
set_option maxHeartbeats 8000000 in
set_option maxRecDepth 100000 in
theorem wicketlaw11_copied.calls (k : Nat) (A0 : Option Addr) (c0 : Nat) (l0 : List (S40)) (r : List (S40)) (w : World) (hr0 : Kd.C k40 w A0 l0.length l0) (hc0 : l0.length ≤ c0) (h : wicketlaw11_copied.f k l0 = some r) :
 Calls Tryz.prog 15 #[.slice A0 l0.length c0] w fun e w' => ∃ v0_ : Value, e = .returned (v0_) ∧ Kd.S k40 40 w' w.heap.size (fun _ => True) v0_ r ∧ Below w.heap.size w w' := by
 have hu40 := Tryz.underlying40
 have HR0 := Aside0.mk hr0
 have HC0 := Aside0.mk hc0
 clear hr0 hc0
 have HB := Aside0.mk (Below.refl w.heap.size w)
 have H : (wicketlaw11_copied.l0 k l0 ([] : List (S40)) 0) = some r := h
 clear h
 have H' := Aside0.mk H
 clear H
 go_enter Tryz.func15, Tryz.ntmps15
 go_wp2
 go_loopg [3, 4] k (fun kq v3 v4 w' => ∃ (x3_1 : List (S40)) (x4_1 : Int), v4 = .int .i64 x4_1 ∧ Aside0 (wicketlaw11_copied.l0 kq l0 x3_1 x4_1 = some r) ∧ Aside0 (kq ≤ k) ∧ Aside0 (Kd.S k40 40 w' w.heap.size (fun _ => True) v3 x3_1) ∧ Aside0 (Below w.heap.size w w'))
 case atStart => exact ⟨(([] : List (S40))), (0), rfl, H', ⟨Nat.le_refl _⟩, ⟨by (exact Kd.S_nil _ _ _ _ _)⟩, ⟨HB.out⟩⟩
 case round =>
  clear H'
  obtain ⟨x3_1, x4_1, rfl, HA, HK1, HO_3, HB⟩ := hrel
  cases gk with
  | zero => exact absurd HA.out (by simp [wicketlaw11_copied.l0])
  | succ k1 =>
   have H := HA.out
   clear HA
   simp only [wicketlaw11_copied.l0] at H
   by_cases c2 : x4_1 < (l0.length : Int)
   · rw [if_pos c2] at H
     have c2b0 : decide (x4_1 < (l0.length : Int)) = true := decide_eq_true c2
     clear c2
     by_cases c3 : 0 ≤ x4_1
     · rw [if_pos c3] at H
       have c3b0 : decide (0 ≤ x4_1) = true := decide_eq_true c3
       clear c3
       replace H := Option.bind_eq_some_iff.mp H
       obtain ⟨⟨t278, t279, t280, t281, t282, t283⟩, A40, H⟩ := H
       replace H : ((wicketlaw11_theirs.f t278 t279 t280 t281 t282 t283).bind fun bt286 => (if x3_1.length < 1599289640401 then (wicketlaw11_copied.l0 k1 l0 (x3_1 ++ [(⟨bt286.1, bt286.2.1, bt286.2.2.1, bt286.2.2.2.1, bt286.2.2.2.2.1, bt286.2.2.2.2.2⟩ : S40)]) (wrap64 (x4_1 + 1))) else (none))) = some r := H
       have A4 := Aside0.mk A40
       clear A40
       replace H := Option.bind_eq_some_iff.mp H
       obtain ⟨⟨t286, t287, t288, t289, t290, t291⟩, A50, H⟩ := H
       replace H : (if x3_1.length < 1599289640401 then (wicketlaw11_copied.l0 k1 l0 (x3_1 ++ [(⟨t286, t287, t288, t289, t290, t291⟩ : S40)]) (wrap64 (x4_1 + 1))) else (none)) = some r := H
       have A5 := Aside0.mk A50
       clear A50
       by_cases c6 : x3_1.length < 1599289640401
       · rw [if_pos c6] at H
         have LMc6 := Aside0.mk c6
         clear c6
         obtain ⟨y294, hy294⟩ : ∃ y_ : List (S40), y_ = (x3_1 ++ [(⟨t286, t287, t288, t289, t290, t291⟩ : S40)]) := ⟨_, rfl⟩
         replace H : (wicketlaw11_copied.l0 k1 l0 y294 (wrap64 (x4_1 + 1))) = some r := by (rw [hy294]; with_reducible exact H)
         have Ny294 := Aside0.mk hy294
         clear hy294
         have H' := Aside0.mk H
         clear H
         have p277 : 0 ≤ (x4_1 : Int) := of_decide_eq_true (by assumption)
         have q277 : x4_1 < (l0.length : Int) := of_decide_eq_true (by assumption)
         obtain ⟨ad277, A277_5, c277_5, e277, hx277_0, hx277_1, hx277_2, hx277_3, hx277_4, hx277_5, hl277_5, hi277_5⟩ := at_T40 HR0.out x4_1 p277 q277
         cases e277
         replace hx277_0 := (HB.out.cell (World.block_lt_of_cell? w _ hx277_0)).trans hx277_0
         replace hx277_1 := (HB.out.cell (World.block_lt_of_cell? w _ hx277_1)).trans hx277_1
         replace hx277_2 := (HB.out.cell (World.block_lt_of_cell? w _ hx277_2)).trans hx277_2
         replace hx277_3 := (HB.out.cell (World.block_lt_of_cell? w _ hx277_3)).trans hx277_3
         replace hx277_4 := (HB.out.cell (World.block_lt_of_cell? w _ hx277_4)).trans hx277_4
         replace hx277_5 := (HB.out.cell (World.block_lt_of_cell? w _ hx277_5)).trans hx277_5
         have HR277_5 := Aside0.mk hi277_5
         have HC277_5 := Aside0.mk hl277_5
         clear hi277_5 hl277_5
         replace p277 := eq_true p277
         replace q277 := eq_true q277
         go_wp2_with (first | ((with_reducible refine gate_callee (f := 25) rfl ?_); refine goesL_ (some 16) rfl rfl Tryz.func25 (by kernel_rfl) rfl #[.agg #[.string ((rd_T40 l0 x4_1).f0), .string ((rd_T40 l0 x4_1).f1), .int .i64 ((rd_T40 l0 x4_1).f2), .bool ((rd_T40 l0 x4_1).f3), .string ((rd_T40 l0 x4_1).f4), .slice A277_5 ((rd_T40 l0 x4_1).f5).length c277_5]] rfl (by ((try simp only [List.map_toArray, List.map_cons, List.map_nil]); (rfl))) ?_; (with_reducible refine (wicketlaw11_ours.calls ((rd_T40 l0 x4_1).f0) ((rd_T40 l0 x4_1).f1) ((rd_T40 l0 x4_1).f2) ((rd_T40 l0 x4_1).f3) ((rd_T40 l0 x4_1).f4) _ _ ((rd_T40 l0 x4_1).f5) t278 t279 t280 t281 t282 t283 _ ?side1 ?side2 A4.out).mono ?_); (case side1 => repeat (exact (Kd.C_below HR277_5.out HB.out))); (case side2 => exact HC277_5.out); rintro e w7 ⟨v284, rfl, ho0, hb⟩; refine ⟨_, rfl, ?_⟩; replace HO_3 := Aside0.mk (Kd.S_elder' HO_3.out (Kd.R_base ho0) hb); have HO285 := Aside0.mk (Kd.R_lower ho0 (below_size HB.out)); replace HB := Aside0.mk (below_step HB.out hb); clear hb ho0; obtain ⟨Ao8, co8, eo8⟩ := Kd.R_slice HO285.out; subst eo8) | ((with_reducible refine gate_callee (f := 24) rfl ?_); refine goesL_ (some 17) rfl rfl Tryz.func24 (by kernel_rfl) rfl #[.agg #[.string t278, .string t279, .int .i64 t280, .bool t281, .string t282, .slice Ao8 t283.length co8]] rfl (by ((try simp only [List.map_toArray, List.map_cons, List.map_nil]); (rfl))) ?_; (with_reducible refine (wicketlaw11_theirs.calls t278 t279 t280 t281 t282 _ _ t283 t286 t287 t288 t289 t290 t291 _ ?side1 ?side2 A5.out).mono ?_); (case side1 => repeat (exact (Kd.R_reads' HO285.out).2.2)); (case side2 => exact (Kd.R_reads' HO285.out).2.1); rintro e w9 ⟨v292, rfl, ho0, hb⟩; refine ⟨_, rfl, ?_⟩; replace HO_3 := Aside0.mk (Kd.S_elder' HO_3.out (Kd.R_base ho0) hb); have HO293 := Aside0.mk (Kd.R_lower (Kd.R_new' ho0 (Kd.R_lt HO285.out)) (below_size HB.out)); replace HO285 := Aside0.mk (Kd.R_elder' HO285.out (Kd.R_base ho0) hb); replace HB := Aside0.mk (below_step HB.out hb); clear hb ho0; obtain ⟨Ao11, co11, eo11⟩ := Kd.R_slice HO293.out; subst eo11) | ((with_reducible refine gate_builtin (b := .append) (xs := #[.tmp 11, .tmp 18]) rfl ?_); at_builtin; refine Kd.S_append k40 (w0 := w) w.heap.size rfl (.tmp 11) (.tmp 18) 22 40 (.agg #[(.string ⟨#[]⟩), (.string ⟨#[]⟩), (.int .i64 0), (.bool false), (.string ⟨#[]⟩), (.slice none 0 0)]) 88 rfl Tryz.underlying22 info40 rfl (by decide) (by omega) u3 x3_1 (⟨t286, t287, t288, t289, t290, t291⟩ : S40) [.string t286, .string t287, .int .i64 t288, .bool t289, .string t290, .slice Ao11 t291.length co11] (fun k_ => some k_ ≠ (.slice Ao8 t283.length co8 : Value).ownBlock) (fun k_ => some k_ = (.slice Ao11 t291.length co11 : Value).ownBlock) rfl rfl ?aP (fun k_ hk_ => ((Kd.R_mono (ok' := fun k_ => ((fun k_ => some k_ ≠ (.slice Ao8 t283.length co8 : Value).ownBlock)) k_ ∧ some k_ ≠ (u3 : Value).ownBlock) (Kd.R_apart' (HO293.out) (Kd.S_typed HO_3.out) (by decide)) (fun k_ hk => ⟨hk.1.2, hk.2⟩))).1 k_ hk_.symm) ?aF ?aO ?aB ?aS ?aL ?_; (case aP => exact k40_mkM _ _ _ (⟨t286, t287, t288, t289, t290, t291⟩ : S40) (Kd.R_mono (Kd.R_tight rfl (Kd.R_mono (ok' := fun k_ => ((fun k_ => some k_ ≠ (.slice Ao8 t283.length co8 : Value).ownBlock)) k_ ∧ some k_ ≠ (u3 : Value).ownBlock) (Kd.R_apart' (HO293.out) (Kd.S_typed HO_3.out) (by decide)) (fun k_ hk => ⟨hk.1.2, hk.2⟩))) (fun _ h_ => h_))); (case aB => exact HB.out); (case aF => exact (fun k_ hk => Kd.fresh' (Kd.R_lt HO285.out) k_ hk)); (case aO => exact (by (with_reducible repeat (first | apply Kd.S_alloc  | apply Kd.S_drewN  | apply Kd.S_drew)); exact Kd.S_mono HO_3.out (fun k_ hk => ⟨hk.1.2, fun e_ => hk.2 e_⟩))); (case aS => exact (below_size HB.out)); (case aL => have := LMc6.out; omega); intro v295 w10 ho hb hg hat; rw [← Ny294.out] at ho; have n0_ := Aside0.mk (Kd.R_over' HO285.out (Kd.S_typed HO_3.out) (by decide) hg); have n1_ := Aside0.mk hb; have n2_ := Aside0.mk ho; clear HO285 HB; clear HO_3 HO293; have HO285 := n0_; have HB := n1_; have HO296 := n2_; clear n0_ n1_ n2_; clear ho hb hg hat))
         go_roundg k1
         case measure => have := HK1.out; omega
         case rel => exact ⟨(y294), (wrap64 (x4_1 + 1)), rfl, H', ⟨by have := HK1.out; omega⟩, ⟨by (with_reducible repeat (first | apply Kd.S_alloc  | apply Kd.S_drewN  | apply Kd.S_drew)); exact Kd.S_mono HO296.out (fun _ hk => trivial)⟩, ⟨HB.out⟩⟩
       · rw [if_neg c6] at H
         exact absurd H (by simp)
     · rw [if_neg c3] at H
       exact absurd H (by simp)
   · rw [if_neg c2] at H
     have c2b0 : decide (x4_1 < (l0.length : Int)) = false := decide_eq_false c2
     clear c2
     obtain rfl := Option.some.inj H
     go_wp2
     go_ret
     exact ⟨_, rfl, by ((with_reducible repeat (first | apply Kd.S_alloc  | apply Kd.S_drewN  | apply Kd.S_drew)); exact HO_3.out), by (with_reducible exact HB.out)⟩
def wicketlaw11_all.l0 : Nat → List (S40) → List (S43) → Int → Option ((List (S43)))
 | 0, _, _, _ => none
 | k + 1, x0, x3, x4 => if x4 < (x0.length : Int) then (if 0 ≤ x4 then ((wicketlaw11_ours.f ((rd_T40 x0 x4).f0) ((rd_T40 x0 x4).f1) ((rd_T40 x0 x4).f2) ((rd_T40 x0 x4).f3) ((rd_T40 x0 x4).f4) ((rd_T40 x0 x4).f5)).bind fun bt298 => (if x3.length < 1599289640401 then (wicketlaw11_all.l0 k x0 (x3 ++ [(⟨bt298.1, bt298.2.1, bt298.2.2.1, bt298.2.2.2.1, bt298.2.2.2.2.1, bt298.2.2.2.2.2⟩ : S43)]) (wrap64 (x4 + 1))) else (none))) else (none)) else (some x3)
def wicketlaw11_all.f (k : Nat) (l0 : List (S40)) : Option ((List (S43))) := wicketlaw11_all.l0 k l0 ([] : List (S43)) 0
set_option maxHeartbeats 8000000 in
set_option maxRecDepth 100000 in
theorem wicketlaw11_all.calls (k : Nat) (A0 : Option Addr) (c0 : Nat) (l0 : List (S40)) (r : List (S43)) (w : World) (hr0 : Kd.C k40 w A0 l0.length l0) (hc0 : l0.length ≤ c0) (h : wicketlaw11_all.f k l0 = some r) :
 Calls Tryz.prog 18 #[.slice A0 l0.length c0] w fun e w' => ∃ v0_ : Value, e = .returned (v0_) ∧ Kd.S k43 43 w' w.heap.size (fun _ => True) v0_ r ∧ Below w.heap.size w w' := by
 have hu40 := Tryz.underlying40
 have HR0 := Aside0.mk hr0
 have HC0 := Aside0.mk hc0
 clear hr0 hc0
 have HB := Aside0.mk (Below.refl w.heap.size w)
 have H : (wicketlaw11_all.l0 k l0 ([] : List (S43)) 0) = some r := h
 clear h
 have H' := Aside0.mk H
 clear H
 go_enter Tryz.func18, Tryz.ntmps18
 go_wp2
 go_loopg [3, 4] k (fun kq v3 v4 w' => ∃ (x3_1 : List (S43)) (x4_1 : Int), v4 = .int .i64 x4_1 ∧ Aside0 (wicketlaw11_all.l0 kq l0 x3_1 x4_1 = some r) ∧ Aside0 (kq ≤ k) ∧ Aside0 (Kd.S k43 43 w' w.heap.size (fun _ => True) v3 x3_1) ∧ Aside0 (Below w.heap.size w w'))
 case atStart => exact ⟨(([] : List (S43))), (0), rfl, H', ⟨Nat.le_refl _⟩, ⟨by (exact Kd.S_nil _ _ _ _ _)⟩, ⟨HB.out⟩⟩
 case round =>
  clear H'
  obtain ⟨x3_1, x4_1, rfl, HA, HK1, HO_3, HB⟩ := hrel
  cases gk with
  | zero => exact absurd HA.out (by simp [wicketlaw11_all.l0])
  | succ k1 =>
   have H := HA.out
   clear HA
   simp only [wicketlaw11_all.l0] at H
   by_cases c2 : x4_1 < (l0.length : Int)
   · rw [if_pos c2] at H
     have c2b0 : decide (x4_1 < (l0.length : Int)) = true := decide_eq_true c2
     clear c2
     by_cases c3 : 0 ≤ x4_1
     · rw [if_pos c3] at H
       have c3b0 : decide (0 ≤ x4_1) = true := decide_eq_true c3
       clear c3
       replace H := Option.bind_eq_some_iff.mp H
       obtain ⟨⟨t298, t299, t300, t301, t302, t303⟩, A40, H⟩ := H
       replace H : (if x3_1.length < 1599289640401 then (wicketlaw11_all.l0 k1 l0 (x3_1 ++ [(⟨t298, t299, t300, t301, t302, t303⟩ : S43)]) (wrap64 (x4_1 + 1))) else (none)) = some r := H
       have A4 := Aside0.mk A40
       clear A40
       by_cases c5 : x3_1.length < 1599289640401
       · rw [if_pos c5] at H
         have LMc5 := Aside0.mk c5
         clear c5
         obtain ⟨y306, hy306⟩ : ∃ y_ : List (S43), y_ = (x3_1 ++ [(⟨t298, t299, t300, t301, t302, t303⟩ : S43)]) := ⟨_, rfl⟩
         replace H : (wicketlaw11_all.l0 k1 l0 y306 (wrap64 (x4_1 + 1))) = some r := by (rw [hy306]; with_reducible exact H)
         have Ny306 := Aside0.mk hy306
         clear hy306
         have H' := Aside0.mk H
         clear H
         have p297 : 0 ≤ (x4_1 : Int) := of_decide_eq_true (by assumption)
         have q297 : x4_1 < (l0.length : Int) := of_decide_eq_true (by assumption)
         obtain ⟨ad297, A297_5, c297_5, e297, hx297_0, hx297_1, hx297_2, hx297_3, hx297_4, hx297_5, hl297_5, hi297_5⟩ := at_T40 HR0.out x4_1 p297 q297
         cases e297
         replace hx297_0 := (HB.out.cell (World.block_lt_of_cell? w _ hx297_0)).trans hx297_0
         replace hx297_1 := (HB.out.cell (World.block_lt_of_cell? w _ hx297_1)).trans hx297_1
         replace hx297_2 := (HB.out.cell (World.block_lt_of_cell? w _ hx297_2)).trans hx297_2
         replace hx297_3 := (HB.out.cell (World.block_lt_of_cell? w _ hx297_3)).trans hx297_3
         replace hx297_4 := (HB.out.cell (World.block_lt_of_cell? w _ hx297_4)).trans hx297_4
         replace hx297_5 := (HB.out.cell (World.block_lt_of_cell? w _ hx297_5)).trans hx297_5
         have HR297_5 := Aside0.mk hi297_5
         have HC297_5 := Aside0.mk hl297_5
         clear hi297_5 hl297_5
         replace p297 := eq_true p297
         replace q297 := eq_true q297
         go_wp2_with (first | ((with_reducible refine gate_callee (f := 25) rfl ?_); refine goesL_ (some 16) rfl rfl Tryz.func25 (by kernel_rfl) rfl #[.agg #[.string ((rd_T40 l0 x4_1).f0), .string ((rd_T40 l0 x4_1).f1), .int .i64 ((rd_T40 l0 x4_1).f2), .bool ((rd_T40 l0 x4_1).f3), .string ((rd_T40 l0 x4_1).f4), .slice A297_5 ((rd_T40 l0 x4_1).f5).length c297_5]] rfl (by ((try simp only [List.map_toArray, List.map_cons, List.map_nil]); (rfl))) ?_; (with_reducible refine (wicketlaw11_ours.calls ((rd_T40 l0 x4_1).f0) ((rd_T40 l0 x4_1).f1) ((rd_T40 l0 x4_1).f2) ((rd_T40 l0 x4_1).f3) ((rd_T40 l0 x4_1).f4) _ _ ((rd_T40 l0 x4_1).f5) t298 t299 t300 t301 t302 t303 _ ?side1 ?side2 A4.out).mono ?_); (case side1 => repeat (exact (Kd.C_below HR297_5.out HB.out))); (case side2 => exact HC297_5.out); rintro e w6 ⟨v304, rfl, ho0, hb⟩; refine ⟨_, rfl, ?_⟩; replace HO_3 := Aside0.mk (Kd.S_elder' HO_3.out (Kd.R_base ho0) hb); have HO305 := Aside0.mk (Kd.R_lower ho0 (below_size HB.out)); replace HB := Aside0.mk (below_step HB.out hb); clear hb ho0; obtain ⟨Ao8, co8, eo8⟩ := Kd.R_slice HO305.out; subst eo8) | ((with_reducible refine gate_builtin (b := .append) (xs := #[.tmp 11, .tmp 17]) rfl ?_); at_builtin; refine Kd.S_append k43 (w0 := w) w.heap.size rfl (.tmp 11) (.tmp 17) 29 43 (.agg #[(.string ⟨#[]⟩), (.string ⟨#[]⟩), (.int .i64 0), (.bool false), (.string ⟨#[]⟩), (.slice none 0 0)]) 88 rfl Tryz.underlying29 info43 rfl (by decide) (by omega) u3 x3_1 (⟨t298, t299, t300, t301, t302, t303⟩ : S43) [.string t298, .string t299, .int .i64 t300, .bool t301, .string t302, .slice Ao8 t303.length co8] (fun _ => True) (fun k_ => some k_ = (.slice Ao8 t303.length co8 : Value).ownBlock) rfl rfl ?aP (fun k_ hk_ => ((Kd.R_mono (ok' := fun k_ => ((fun _ => True)) k_ ∧ some k_ ≠ (u3 : Value).ownBlock) (Kd.R_apart' (HO305.out) (Kd.S_typed HO_3.out) (by decide)) (fun k_ hk => ⟨trivial, hk.2⟩))).1 k_ hk_.symm) ?aF ?aO ?aB ?aS ?aL ?_; (case aP => exact k43_mkM _ _ _ (⟨t298, t299, t300, t301, t302, t303⟩ : S43) (Kd.R_mono (Kd.R_tight rfl (Kd.R_mono (ok' := fun k_ => ((fun _ => True)) k_ ∧ some k_ ≠ (u3 : Value).ownBlock) (Kd.R_apart' (HO305.out) (Kd.S_typed HO_3.out) (by decide)) (fun k_ hk => ⟨trivial, hk.2⟩))) (fun _ h_ => h_))); (case aB => exact HB.out); (case aF => exact (fun _ _ => trivial)); (case aO => exact (by (with_reducible repeat (first | apply Kd.S_alloc  | apply Kd.S_drewN  | apply Kd.S_drew)); exact Kd.S_mono HO_3.out (fun k_ hk => ⟨trivial, fun e_ => hk.2 e_⟩))); (case aS => exact (below_size HB.out)); (case aL => have := LMc5.out; omega); intro v307 w7 ho hb hg hat; rw [← Ny306.out] at ho; have n0_ := Aside0.mk hb; have n1_ := Aside0.mk ho; clear HB HO_3 HO305; have HB := n0_; have HO308 := n1_; clear n0_ n1_; clear ho hb hg hat))
         go_roundg k1
         case measure => have := HK1.out; omega
         case rel => exact ⟨(y306), (wrap64 (x4_1 + 1)), rfl, H', ⟨by have := HK1.out; omega⟩, ⟨HO308.out⟩, ⟨HB.out⟩⟩
       · rw [if_neg c5] at H
         exact absurd H (by simp)
     · rw [if_neg c3] at H
       exact absurd H (by simp)
   · rw [if_neg c2] at H
     have c2b0 : decide (x4_1 < (l0.length : Int)) = false := decide_eq_false c2
     clear c2
     obtain rfl := Option.some.inj H
     go_wp2
     go_ret
     exact ⟨_, rfl, by ((with_reducible repeat (first | apply Kd.S_alloc  | apply Kd.S_drewN  | apply Kd.S_drew)); exact HO_3.out), by (with_reducible exact HB.out)⟩
end Go.Proofs.YtmimipgmhgalaaaGreatDoor.PAll
end
section
namespace Go.Proofs.YtmimipgmhgalaaaGreatDoor.PAll
open Go.RowKit Go.Proofs.YtmimipgmhgalaaaGreatDoorW.PrintWords Go.Proofs.YtmimipgmhgalaaaGreatDoorW.PrintLast Go.Proofs.YtmimipgmhgalaaaGreatDoorW.PrintMore
attribute [local go_sem] max2_int min2_int max_two min_two max_three min_three max_four min_four
set_option linter.unusedVariables false
set_option linter.unusedSimpArgs false
mutual
def wicketlaw11_same.j0 : Nat → Bool → ByteArray → ByteArray → Int → Bool → ByteArray → List ByteArray → ByteArray → ByteArray → Int → Bool → ByteArray → List ByteArray → Option (Bool)
 | 0, _, _, _, _, _, _, _, _, _, _, _, _, _ => none
 | k + 1, x47, x310000, x310001, x310002, x310003, x310004, x310005, x311000, x311001, x311002, x311003, x311004, x311005 => if x47 = true then (some false) else (wicketlaw11_same.l0 k 0 x310000 x310001 x310002 x310003 x310004 x310005 x311000 x311001 x311002 x311003 x311004 x311005)
def wicketlaw11_same.l0 : Nat → Int → ByteArray → ByteArray → Int → Bool → ByteArray → List ByteArray → ByteArray → ByteArray → Int → Bool → ByteArray → List ByteArray → Option (Bool)
 | 0, _, _, _, _, _, _, _, _, _, _, _, _, _ => none
 | k + 1, x5, x310000, x310001, x310002, x310003, x310004, x310005, x311000, x311001, x311002, x311003, x311004, x311005 => if x5 < (x310005.length : Int) then (if 0 ≤ x5 then (if x5 < (x311005.length : Int) then (if (rdOf ByteArray.empty x310005 x5).toList = (rdOf ByteArray.empty x311005 x5).toList then (wicketlaw11_same.l0 k (wrap64 (x5 + 1)) x310000 x310001 x310002 x310003 x310004 x310005 x311000 x311001 x311002 x311003 x311004 x311005) else (some false)) else (none)) else (none)) else (some true)
end
def wicketlaw11_same.f (k : Nat) (a0_0 : ByteArray) (a0_1 : ByteArray) (a0_2 : Int) (a0_3 : Bool) (a0_4 : ByteArray) (l0_5 : List ByteArray) (a1_0 : ByteArray) (a1_1 : ByteArray) (a1_2 : Int) (a1_3 : Bool) (a1_4 : ByteArray) (l1_5 : List ByteArray) : Option (Bool) := if a0_0.toList = a1_0.toList then (if a0_1.toList = a1_1.toList then (if a0_2 = a1_2 then (if (a0_3 != a1_3) = true then (wicketlaw11_same.j0 k true a0_0 a0_1 a0_2 a0_3 a0_4 l0_5 a1_0 a1_1 a1_2 a1_3 a1_4 l1_5) else (if a0_4.toList = a1_4.toList then (wicketlaw11_same.j0 k ((l0_5.length : Int) != (l1_5.length : Int)) a0_0 a0_1 a0_2 a0_3 a0_4 l0_5 a1_0 a1_1 a1_2 a1_3 a1_4 l1_5) else (wicketlaw11_same.j0 k true a0_0 a0_1 a0_2 a0_3 a0_4 l0_5 a1_0 a1_1 a1_2 a1_3 a1_4 l1_5))) else (wicketlaw11_same.j0 k true a0_0 a0_1 a0_2 a0_3 a0_4 l0_5 a1_0 a1_1 a1_2 a1_3 a1_4 l1_5)) else (wicketlaw11_same.j0 k true a0_0 a0_1 a0_2 a0_3 a0_4 l0_5 a1_0 a1_1 a1_2 a1_3 a1_4 l1_5)) else (wicketlaw11_same.j0 k true a0_0 a0_1 a0_2 a0_3 a0_4 l0_5 a1_0 a1_1 a1_2 a1_3 a1_4 l1_5)
set_option maxHeartbeats 8000000 in
set_option maxRecDepth 100000 in
theorem wicketlaw11_same.calls (k : Nat) (a0_0 : ByteArray) (a0_1 : ByteArray) (a0_2 : Int) (a0_3 : Bool) (a0_4 : ByteArray) (A0_5 : Option Addr) (c0_5 : Nat) (l0_5 : List ByteArray) (a1_0 : ByteArray) (a1_1 : ByteArray) (a1_2 : Int) (a1_3 : Bool) (a1_4 : ByteArray) (A1_5 : Option Addr) (c1_5 : Nat) (l1_5 : List ByteArray) (r : Bool) (w : World) (hr0_5 : Kd.C Kd.string w A0_5 l0_5.length l0_5) (hc0_5 : l0_5.length ≤ c0_5) (hr1_5 : Kd.C Kd.string w A1_5 l1_5.length l1_5) (hc1_5 : l1_5.length ≤ c1_5) (h : wicketlaw11_same.f k a0_0 a0_1 a0_2 a0_3 a0_4 l0_5 a1_0 a1_1 a1_2 a1_3 a1_4 l1_5 = some r) :
 Calls Tryz.prog 31 #[.agg #[.string a0_0, .string a0_1, .int .i64 a0_2, .bool a0_3, .string a0_4, .slice A0_5 l0_5.length c0_5], .agg #[.string a1_0, .string a1_1, .int .i64 a1_2, .bool a1_3, .string a1_4, .slice A1_5 l1_5.length c1_5]] w fun e w' => e = .returned (.bool r) ∧ Below w.heap.size w w' := by
 have hu40 := Tryz.underlying40
 have hu43 := Tryz.underlying43
 have HR0_5 := Aside0.mk hr0_5
 have HC0_5 := Aside0.mk hc0_5
 clear hr0_5 hc0_5
 have HR1_5 := Aside0.mk hr1_5
 have HC1_5 := Aside0.mk hc1_5
 clear hr1_5 hc1_5
 have HB := Aside0.mk (Below.refl w.heap.size w)
 have H : (if a0_0.toList = a1_0.toList then (if a0_1.toList = a1_1.toList then (if a0_2 = a1_2 then (if (a0_3 != a1_3) = true then (wicketlaw11_same.j0 k true a0_0 a0_1 a0_2 a0_3 a0_4 l0_5 a1_0 a1_1 a1_2 a1_3 a1_4 l1_5) else (if a0_4.toList = a1_4.toList then (wicketlaw11_same.j0 k ((l0_5.length : Int) != (l1_5.length : Int)) a0_0 a0_1 a0_2 a0_3 a0_4 l0_5 a1_0 a1_1 a1_2 a1_3 a1_4 l1_5) else (wicketlaw11_same.j0 k true a0_0 a0_1 a0_2 a0_3 a0_4 l0_5 a1_0 a1_1 a1_2 a1_3 a1_4 l1_5))) else (wicketlaw11_same.j0 k true a0_0 a0_1 a0_2 a0_3 a0_4 l0_5 a1_0 a1_1 a1_2 a1_3 a1_4 l1_5)) else (wicketlaw11_same.j0 k true a0_0 a0_1 a0_2 a0_3 a0_4 l0_5 a1_0 a1_1 a1_2 a1_3 a1_4 l1_5)) else (wicketlaw11_same.j0 k true a0_0 a0_1 a0_2 a0_3 a0_4 l0_5 a1_0 a1_1 a1_2 a1_3 a1_4 l1_5)) = some r := h
 clear h
 have HC3 := Aside0.mk H
 clear H
 go_enter Tryz.func31, Tryz.ntmps31
 go_upto_region 1 with (first | ((with_reducible refine gate_dst (N := 2) rfl ?_); (try (refine gate_guard rfl ?_; dsimp only)); refine box_event ?hg (N := 2) ?hd (cs := #[.string a0_0, .string a0_1, .int .i64 a0_2, .bool a0_3, .string a0_4, .slice A0_5 l0_5.length c0_5]) (t := 40) ?hr ?_; (case hd => rfl); (case hg => rfl); (case hr => (go_simp; done)); intro gb309 hg w4 hbox hb; have BK309 := Aside0.mk hbox; have GW309 := Aside0.mk ((by rw [hg]; exact (below_size HB.out) : w.heap.size ≤ gb309)); have GE309 := Aside0.mk ((by rw [hg]; exact (below_size HB.out) : w.heap.size ≤ gb309)); replace HB := Aside0.mk (below_step HB.out hb); clear hb hbox hg) | ((with_reducible refine gate_dst (N := 3) rfl ?_); (try (refine gate_guard rfl ?_; dsimp only)); refine box_event ?hg (N := 3) ?hd (cs := #[.string a1_0, .string a1_1, .int .i64 a1_2, .bool a1_3, .string a1_4, .slice A1_5 l1_5.length c1_5]) (t := 43) ?hr ?_; (case hd => rfl); (case hg => rfl); (case hr => (go_simp; done)); intro gb310 hg w5 hbox hb; have BK310 := Aside0.mk hbox; have GW310 := Aside0.mk ((by rw [hg]; exact (below_size HB.out) : w.heap.size ≤ gb310)); have GE310 := Aside0.mk ((by rw [hg]; exact (below_size HB.out) : w.heap.size ≤ gb310)); replace HB := Aside0.mk (below_step HB.out hb); have NB309_310 := Aside0.mk ((by rw [hg]; exact Nat.ne_of_lt (blk_lt (g := gb309) (o := .cells #[.string a0_0, .string a0_1, .int .i64 a0_2, .bool a0_3, .string a0_4, .slice A0_5 l0_5.length c0_5] 40 (0, 0)) BK309.out) : gb309 ≠ gb310)); have NB310_309 := Aside0.mk ((by rw [hg]; exact Nat.ne_of_gt (blk_lt (g := gb309) (o := .cells #[.string a0_0, .string a0_1, .int .i64 a0_2, .bool a0_3, .string a0_4, .slice A0_5 l0_5.length c0_5] 40 (0, 0)) BK309.out) : gb310 ≠ gb309)); replace BK309 := Aside0.mk (blk_below (g := gb309) (o := .cells #[.string a0_0, .string a0_1, .int .i64 a0_2, .bool a0_3, .string a0_4, .slice A0_5 l0_5.length c0_5] 40 (0, 0)) BK309.out hb); clear hb hbox hg))
 repeat (go_quiet (first | ((with_reducible refine gate_dst (N := 2) rfl ?_); refine box_event ?hg (N := 2) ?hd (cs := #[.string a0_0, .string a0_1, .int .i64 a0_2, .bool a0_3, .string a0_4, .slice A0_5 l0_5.length c0_5]) (t := 40) ?hr ?_; (case hd => rfl); (case hg => rfl); (case hr => first | (go_simp; done)  | (go_simp; rfl)); intro gb309 hg w4 hbox hb; have BK309 := Aside0.mk hbox; have GW309 := Aside0.mk ((by rw [hg]; exact (below_size (by first | (with_reducible exact HB.out)  | (repeat (with_reducible first | exact HB.out  | apply below_alloc  | apply pw_below_drewN  | apply below_drew1))  | (repeat (first | (with_reducible first | exact HB.out  | apply below_alloc  | apply pw_below_drewN  | apply below_drew1)  | exact HB.out)))) : w.heap.size ≤ gb309)); have GE309 := Aside0.mk ((by rw [hg]; exact (below_size (by first | (with_reducible exact HB.out)  | (repeat (with_reducible first | exact HB.out  | apply below_alloc  | apply pw_below_drewN  | apply below_drew1))  | (repeat (first | (with_reducible first | exact HB.out  | apply below_alloc  | apply pw_below_drewN  | apply below_drew1)  | exact HB.out)))) : w.heap.size ≤ gb309)); replace HB := Aside0.mk (below_step (by first | (with_reducible exact HB.out)  | (repeat (with_reducible first | exact HB.out  | apply below_alloc  | apply pw_below_drewN  | apply below_drew1))  | (repeat (first | (with_reducible first | exact HB.out  | apply below_alloc  | apply pw_below_drewN  | apply below_drew1)  | exact HB.out))) hb); clear hb hbox hg)  | ((with_reducible refine gate_dst (N := 3) rfl ?_); refine box_event ?hg (N := 3) ?hd (cs := #[.string a1_0, .string a1_1, .int .i64 a1_2, .bool a1_3, .string a1_4, .slice A1_5 l1_5.length c1_5]) (t := 43) ?hr ?_; (case hd => rfl); (case hg => rfl); (case hr => first | (go_simp; done)  | (go_simp; rfl)); intro gb310 hg w5 hbox hb; have BK310 := Aside0.mk hbox; have GW310 := Aside0.mk ((by rw [hg]; exact (below_size (by first | (with_reducible exact HB.out)  | (repeat (with_reducible first | exact HB.out  | apply below_alloc  | apply pw_below_drewN  | apply below_drew1  | refine below_set ?_ GE309.out))  | (repeat (first | (with_reducible first | exact HB.out  | apply below_alloc  | apply pw_below_drewN  | apply below_drew1  | refine below_set ?_ GE309.out)  | exact HB.out)))) : w.heap.size ≤ gb310)); have GE310 := Aside0.mk ((by rw [hg]; exact (below_size (by first | (with_reducible exact HB.out)  | (repeat (with_reducible first | exact HB.out  | apply below_alloc  | apply pw_below_drewN  | apply below_drew1  | refine below_set ?_ GE309.out))  | (repeat (first | (with_reducible first | exact HB.out  | apply below_alloc  | apply pw_below_drewN  | apply below_drew1  | refine below_set ?_ GE309.out)  | exact HB.out)))) : w.heap.size ≤ gb310)); replace HB := Aside0.mk (below_step (by first | (with_reducible exact HB.out)  | (repeat (with_reducible first | exact HB.out  | apply below_alloc  | apply pw_below_drewN  | apply below_drew1  | refine below_set ?_ GE309.out))  | (repeat (first | (with_reducible first | exact HB.out  | apply below_alloc  | apply pw_below_drewN  | apply below_drew1  | refine below_set ?_ GE309.out)  | exact HB.out))) hb); have NB309_310 := Aside0.mk ((by rw [hg]; exact Nat.ne_of_lt (blk_lt (g := gb309) (o := .cells #[.string a0_0, .string a0_1, .int .i64 a0_2, .bool a0_3, .string a0_4, .slice A0_5 l0_5.length c0_5] 40 (0, 0)) (by first | (with_reducible exact BK309.out)  | ((with_reducible repeat (first | refine blk_drewN ?_ _  | refine blk_drew ?_  | refine blk_alloc ?_ _)); exact BK309.out))) : gb309 ≠ gb310)); have NB310_309 := Aside0.mk ((by rw [hg]; exact Nat.ne_of_gt (blk_lt (g := gb309) (o := .cells #[.string a0_0, .string a0_1, .int .i64 a0_2, .bool a0_3, .string a0_4, .slice A0_5 l0_5.length c0_5] 40 (0, 0)) (by first | (with_reducible exact BK309.out)  | ((with_reducible repeat (first | refine blk_drewN ?_ _  | refine blk_drew ?_  | refine blk_alloc ?_ _)); exact BK309.out))) : gb310 ≠ gb309)); replace BK309 := Aside0.mk (blk_below (g := gb309) (o := .cells #[.string a0_0, .string a0_1, .int .i64 a0_2, .bool a0_3, .string a0_4, .slice A0_5 l0_5.length c0_5] 40 (0, 0)) (by first | (with_reducible exact BK309.out)  | ((with_reducible repeat (first | refine blk_drewN ?_ _  | refine blk_drew ?_  | refine blk_alloc ?_ _)); exact BK309.out)) hb); clear hb hbox hg)); go_upto_region 1 with (first | ((with_reducible refine gate_dst (N := 2) rfl ?_); refine box_event ?hg (N := 2) ?hd (cs := #[.string a0_0, .string a0_1, .int .i64 a0_2, .bool a0_3, .string a0_4, .slice A0_5 l0_5.length c0_5]) (t := 40) ?hr ?_; (case hd => rfl); (case hg => rfl); (case hr => first | (go_simp; done)  | (go_simp; rfl)); intro gb309 hg w4 hbox hb; have BK309 := Aside0.mk hbox; have GW309 := Aside0.mk ((by rw [hg]; exact (below_size (by first | (with_reducible exact HB.out)  | (repeat (with_reducible first | exact HB.out  | apply below_alloc  | apply pw_below_drewN  | apply below_drew1))  | (repeat (first | (with_reducible first | exact HB.out  | apply below_alloc  | apply pw_below_drewN  | apply below_drew1)  | exact HB.out)))) : w.heap.size ≤ gb309)); have GE309 := Aside0.mk ((by rw [hg]; exact (below_size (by first | (with_reducible exact HB.out)  | (repeat (with_reducible first | exact HB.out  | apply below_alloc  | apply pw_below_drewN  | apply below_drew1))  | (repeat (first | (with_reducible first | exact HB.out  | apply below_alloc  | apply pw_below_drewN  | apply below_drew1)  | exact HB.out)))) : w.heap.size ≤ gb309)); replace HB := Aside0.mk (below_step (by first | (with_reducible exact HB.out)  | (repeat (with_reducible first | exact HB.out  | apply below_alloc  | apply pw_below_drewN  | apply below_drew1))  | (repeat (first | (with_reducible first | exact HB.out  | apply below_alloc  | apply pw_below_drewN  | apply below_drew1)  | exact HB.out))) hb); clear hb hbox hg)  | ((with_reducible refine gate_dst (N := 3) rfl ?_); refine box_event ?hg (N := 3) ?hd (cs := #[.string a1_0, .string a1_1, .int .i64 a1_2, .bool a1_3, .string a1_4, .slice A1_5 l1_5.length c1_5]) (t := 43) ?hr ?_; (case hd => rfl); (case hg => rfl); (case hr => first | (go_simp; done)  | (go_simp; rfl)); intro gb310 hg w5 hbox hb; have BK310 := Aside0.mk hbox; have GW310 := Aside0.mk ((by rw [hg]; exact (below_size (by first | (with_reducible exact HB.out)  | (repeat (with_reducible first | exact HB.out  | apply below_alloc  | apply pw_below_drewN  | apply below_drew1  | refine below_set ?_ GE309.out))  | (repeat (first | (with_reducible first | exact HB.out  | apply below_alloc  | apply pw_below_drewN  | apply below_drew1  | refine below_set ?_ GE309.out)  | exact HB.out)))) : w.heap.size ≤ gb310)); have GE310 := Aside0.mk ((by rw [hg]; exact (below_size (by first | (with_reducible exact HB.out)  | (repeat (with_reducible first | exact HB.out  | apply below_alloc  | apply pw_below_drewN  | apply below_drew1  | refine below_set ?_ GE309.out))  | (repeat (first | (with_reducible first | exact HB.out  | apply below_alloc  | apply pw_below_drewN  | apply below_drew1  | refine below_set ?_ GE309.out)  | exact HB.out)))) : w.heap.size ≤ gb310)); replace HB := Aside0.mk (below_step (by first | (with_reducible exact HB.out)  | (repeat (with_reducible first | exact HB.out  | apply below_alloc  | apply pw_below_drewN  | apply below_drew1  | refine below_set ?_ GE309.out))  | (repeat (first | (with_reducible first | exact HB.out  | apply below_alloc  | apply pw_below_drewN  | apply below_drew1  | refine below_set ?_ GE309.out)  | exact HB.out))) hb); have NB309_310 := Aside0.mk ((by rw [hg]; exact Nat.ne_of_lt (blk_lt (g := gb309) (o := .cells #[.string a0_0, .string a0_1, .int .i64 a0_2, .bool a0_3, .string a0_4, .slice A0_5 l0_5.length c0_5] 40 (0, 0)) (by first | (with_reducible exact BK309.out)  | ((with_reducible repeat (first | refine blk_drewN ?_ _  | refine blk_drew ?_  | refine blk_alloc ?_ _)); exact BK309.out))) : gb309 ≠ gb310)); have NB310_309 := Aside0.mk ((by rw [hg]; exact Nat.ne_of_gt (blk_lt (g := gb309) (o := .cells #[.string a0_0, .string a0_1, .int .i64 a0_2, .bool a0_3, .string a0_4, .slice A0_5 l0_5.length c0_5] 40 (0, 0)) (by first | (with_reducible exact BK309.out)  | ((with_reducible repeat (first | refine blk_drewN ?_ _  | refine blk_drew ?_  | refine blk_alloc ?_ _)); exact BK309.out))) : gb310 ≠ gb309)); replace BK309 := Aside0.mk (blk_below (g := gb309) (o := .cells #[.string a0_0, .string a0_1, .int .i64 a0_2, .bool a0_3, .string a0_4, .slice A0_5 l0_5.length c0_5] 40 (0, 0)) (by first | (with_reducible exact BK309.out)  | ((with_reducible repeat (first | refine blk_drewN ?_ _  | refine blk_drew ?_  | refine blk_alloc ?_ _)); exact BK309.out)) hb); clear hb hbox hg)))
 go_cut [47] (fun v47 wc => ∃ (kq : Nat) (x47_2 : Bool), v47 = .bool x47_2 ∧ Aside0 (wicketlaw11_same.j0 kq x47_2 a0_0 a0_1 a0_2 a0_3 a0_4 l0_5 a1_0 a1_1 a1_2 a1_3 a1_4 l1_5 = some r) ∧ Aside0 (kq ≤ k) ∧ Aside0 (wc.heap[gb309]? = some (.cells #[.string a0_0, .string a0_1, .int .i64 a0_2, .bool a0_3, .string a0_4, (.slice A0_5 l0_5.length c0_5)] 40 (0, 0))) ∧ Aside0 (wc.heap[gb310]? = some (.cells #[.string a1_0, .string a1_1, .int .i64 a1_2, .bool a1_3, .string a1_4, (.slice A1_5 l1_5.length c1_5)] 43 (0, 0))) ∧ Aside0 (Below w.heap.size w wc))
 case first =>
  have H := HC3.out
  clear HC3
  by_cases c6 : a0_0.toList = a1_0.toList
  · rw [if_pos c6] at H
    have c6b0 : (a0_0.toList == a1_0.toList) = true := beq_iff_eq.mpr c6
    have c6b1 : (a0_0.toList != a1_0.toList) = false := bne_eq_false_iff_eq.mpr c6
    clear c6
    by_cases c7 : a0_1.toList = a1_1.toList
    · rw [if_pos c7] at H
      have c7b0 : (a0_1.toList == a1_1.toList) = true := beq_iff_eq.mpr c7
      have c7b1 : (a0_1.toList != a1_1.toList) = false := bne_eq_false_iff_eq.mpr c7
      clear c7
      by_cases c8 : a0_2 = a1_2
      · rw [if_pos c8] at H
        have c8b0 : (a0_2 == a1_2) = true := beq_iff_eq.mpr c8
        have c8b1 : (a0_2 != a1_2) = false := bne_eq_false_iff_eq.mpr c8
        clear c8
        by_cases c9 : (a0_3 != a1_3) = true
        · rw [if_pos c9] at H
          have c9b0 : (a0_3 != a1_3) = true := c9
          (try (have c9b1 : decide (a0_3 = a1_3) = false := by simpa using c9))
          (try (have c9b2 : (a0_3 == a1_3) = false := by simpa using c9))
          (try (have c9b3 : ¬ (a0_3 = a1_3) := by simpa using c9))
          clear c9
          have H' := Aside0.mk H
          clear H
          have hnb10 := NB309_310.out
          have hnc10 := NB310_309.out
          obtain ⟨hcz11_0, hcz11_1, hcz11_2, hcz11_3, hcz11_4, hcz11_5, hfz11_0, hfz11_1, hfz11_2, hfz11_3, hfz11_4, hfz11_5⟩ := cz6_ BK309.out
          obtain ⟨hcz12_0, hcz12_1, hcz12_2, hcz12_3, hcz12_4, hcz12_5, hfz12_0, hfz12_1, hfz12_2, hfz12_3, hfz12_4, hfz12_5⟩ := cz6_ BK310.out
          go_wp2
          repeat (go_quiet (fail); try go_wp2)
          go_meet
          case rel => exact ⟨_, (true), rfl, H', ⟨by (omega)⟩, ⟨BK309.out⟩, ⟨BK310.out⟩, ⟨HB.out⟩⟩
        · rw [if_neg c9] at H
          have c9b0 : (a0_3 != a1_3) = false := by simpa using c9
          (try (have c9b1 : decide (a0_3 = a1_3) = true := by simpa using c9))
          (try (have c9b2 : (a0_3 == a1_3) = true := by simpa using c9))
          clear c9
          by_cases c13 : a0_4.toList = a1_4.toList
          · rw [if_pos c13] at H
            have c13b0 : (a0_4.toList == a1_4.toList) = true := beq_iff_eq.mpr c13
            have c13b1 : (a0_4.toList != a1_4.toList) = false := bne_eq_false_iff_eq.mpr c13
            clear c13
            have H' := Aside0.mk H
            clear H
            have hnb14 := NB309_310.out
            have hnc14 := NB310_309.out
            obtain ⟨hcz15_0, hcz15_1, hcz15_2, hcz15_3, hcz15_4, hcz15_5, hfz15_0, hfz15_1, hfz15_2, hfz15_3, hfz15_4, hfz15_5⟩ := cz6_ BK309.out
            obtain ⟨hcz16_0, hcz16_1, hcz16_2, hcz16_3, hcz16_4, hcz16_5, hfz16_0, hfz16_1, hfz16_2, hfz16_3, hfz16_4, hfz16_5⟩ := cz6_ BK310.out
            go_wp2
            repeat (go_quiet (fail); try go_wp2)
            go_meet
            case rel => exact ⟨_, (((l0_5.length : Int) != (l1_5.length : Int))), rfl, H', ⟨by (omega)⟩, ⟨BK309.out⟩, ⟨BK310.out⟩, ⟨HB.out⟩⟩
          · rw [if_neg c13] at H
            have c13b0 : (a0_4.toList == a1_4.toList) = false := beq_eq_false_iff_ne.mpr c13
            have c13b1 : (a0_4.toList != a1_4.toList) = true := bne_iff_ne.mpr c13
            have H' := Aside0.mk H
            clear H
            have hnb17 := NB309_310.out
            have hnc17 := NB310_309.out
            obtain ⟨hcz18_0, hcz18_1, hcz18_2, hcz18_3, hcz18_4, hcz18_5, hfz18_0, hfz18_1, hfz18_2, hfz18_3, hfz18_4, hfz18_5⟩ := cz6_ BK309.out
            obtain ⟨hcz19_0, hcz19_1, hcz19_2, hcz19_3, hcz19_4, hcz19_5, hfz19_0, hfz19_1, hfz19_2, hfz19_3, hfz19_4, hfz19_5⟩ := cz6_ BK310.out
            go_wp2
            repeat (go_quiet (fail); try go_wp2)
            go_meet
            case rel => exact ⟨_, (true), rfl, H', ⟨by (omega)⟩, ⟨BK309.out⟩, ⟨BK310.out⟩, ⟨HB.out⟩⟩
      · rw [if_neg c8] at H
        have c8b0 : (a0_2 == a1_2) = false := beq_eq_false_iff_ne.mpr c8
        have c8b1 : (a0_2 != a1_2) = true := bne_iff_ne.mpr c8
        have H' := Aside0.mk H
        clear H
        have hnb20 := NB309_310.out
        have hnc20 := NB310_309.out
        obtain ⟨hcz21_0, hcz21_1, hcz21_2, hcz21_3, hcz21_4, hcz21_5, hfz21_0, hfz21_1, hfz21_2, hfz21_3, hfz21_4, hfz21_5⟩ := cz6_ BK309.out
        obtain ⟨hcz22_0, hcz22_1, hcz22_2, hcz22_3, hcz22_4, hcz22_5, hfz22_0, hfz22_1, hfz22_2, hfz22_3, hfz22_4, hfz22_5⟩ := cz6_ BK310.out
        go_wp2
        repeat (go_quiet (fail); try go_wp2)
        go_meet
        case rel => exact ⟨_, (true), rfl, H', ⟨by (omega)⟩, ⟨BK309.out⟩, ⟨BK310.out⟩, ⟨HB.out⟩⟩
    · rw [if_neg c7] at H
      have c7b0 : (a0_1.toList == a1_1.toList) = false := beq_eq_false_iff_ne.mpr c7
      have c7b1 : (a0_1.toList != a1_1.toList) = true := bne_iff_ne.mpr c7
      have H' := Aside0.mk H
      clear H
      have hnb23 := NB309_310.out
      have hnc23 := NB310_309.out
      obtain ⟨hcz24_0, hcz24_1, hcz24_2, hcz24_3, hcz24_4, hcz24_5, hfz24_0, hfz24_1, hfz24_2, hfz24_3, hfz24_4, hfz24_5⟩ := cz6_ BK309.out
      obtain ⟨hcz25_0, hcz25_1, hcz25_2, hcz25_3, hcz25_4, hcz25_5, hfz25_0, hfz25_1, hfz25_2, hfz25_3, hfz25_4, hfz25_5⟩ := cz6_ BK310.out
      go_wp2
      repeat (go_quiet (fail); try go_wp2)
      go_meet
      case rel => exact ⟨_, (true), rfl, H', ⟨by (omega)⟩, ⟨BK309.out⟩, ⟨BK310.out⟩, ⟨HB.out⟩⟩
  · rw [if_neg c6] at H
    have c6b0 : (a0_0.toList == a1_0.toList) = false := beq_eq_false_iff_ne.mpr c6
    have c6b1 : (a0_0.toList != a1_0.toList) = true := bne_iff_ne.mpr c6
    have H' := Aside0.mk H
    clear H
    have hnb26 := NB309_310.out
    have hnc26 := NB310_309.out
    obtain ⟨hcz27_0, hcz27_1, hcz27_2, hcz27_3, hcz27_4, hcz27_5, hfz27_0, hfz27_1, hfz27_2, hfz27_3, hfz27_4, hfz27_5⟩ := cz6_ BK309.out
    obtain ⟨hcz28_0, hcz28_1, hcz28_2, hcz28_3, hcz28_4, hcz28_5, hfz28_0, hfz28_1, hfz28_2, hfz28_3, hfz28_4, hfz28_5⟩ := cz6_ BK310.out
    go_wp2
    repeat (go_quiet (fail); try go_wp2)
    go_meet
    case rel => exact ⟨_, (true), rfl, H', ⟨by (omega)⟩, ⟨BK309.out⟩, ⟨BK310.out⟩, ⟨HB.out⟩⟩
 case rest =>
  clear HC3
  obtain ⟨kq, x47_2, rfl, HA, HJ2, BK309, BK310, HB⟩ := hcut
  cases kq with
  | zero => exact absurd HA.out (by simp [wicketlaw11_same.j0])
  | succ kj2 =>
   have H := HA.out
   clear HA
   simp only [wicketlaw11_same.j0] at H
   by_cases c29 : x47_2 = true
   · subst c29
     have H1 : (some false) = some r := by rw [if_pos rfl] at H; exact H
     clear H
     have H := H1
     clear H1
     obtain rfl := Option.some.inj H
     go_wp2
     repeat (go_quiet (fail); try go_wp2)
     go_ret
     exact ⟨by (rfl), by (with_reducible exact HB.out)⟩
   · replace c29 := Bool.eq_false_iff.mpr c29
     subst c29
     have H1 : (wicketlaw11_same.l0 kj2 0 a0_0 a0_1 a0_2 a0_3 a0_4 l0_5 a1_0 a1_1 a1_2 a1_3 a1_4 l1_5) = some r := by rw [if_neg (show ¬ (false = true) by decide)] at H; exact H
     clear H
     have H := H1
     clear H1
     have H' := Aside0.mk H
     clear H
     go_wp2
     repeat (go_quiet (fail); try go_wp2)
     go_loopg [5] kj2 (fun kq v5 w' => ∃ (x5_2 : Int), v5 = .int .i64 x5_2 ∧ Aside0 (wicketlaw11_same.l0 kq x5_2 a0_0 a0_1 a0_2 a0_3 a0_4 l0_5 a1_0 a1_1 a1_2 a1_3 a1_4 l1_5 = some r) ∧ Aside0 (kq ≤ kj2) ∧ Aside0 (w'.heap[gb309]? = some (.cells #[.string a0_0, .string a0_1, .int .i64 a0_2, .bool a0_3, .string a0_4, (.slice A0_5 l0_5.length c0_5)] 40 (0, 0))) ∧ Aside0 (w'.heap[gb310]? = some (.cells #[.string a1_0, .string a1_1, .int .i64 a1_2, .bool a1_3, .string a1_4, (.slice A1_5 l1_5.length c1_5)] 43 (0, 0))) ∧ Aside0 (Below w.heap.size w w'))
     case atStart => exact ⟨(0), rfl, H', ⟨Nat.le_refl _⟩, ⟨BK309.out⟩, ⟨BK310.out⟩, ⟨HB.out⟩⟩
     case round =>
      clear H'
      obtain ⟨x5_2, rfl, HA, HK2, BK309, BK310, HB⟩ := hrel
      cases gk with
      | zero => exact absurd HA.out (by simp [wicketlaw11_same.l0])
      | succ k2 =>
       have H := HA.out
       clear HA
       simp only [wicketlaw11_same.l0] at H
       by_cases c30 : x5_2 < (l0_5.length : Int)
       · rw [if_pos c30] at H
         have c30b0 : decide (x5_2 < (l0_5.length : Int)) = true := decide_eq_true c30
         clear c30
         by_cases c31 : 0 ≤ x5_2
         · rw [if_pos c31] at H
           have c31b0 : decide (0 ≤ x5_2) = true := decide_eq_true c31
           clear c31
           by_cases c32 : x5_2 < (l1_5.length : Int)
           · rw [if_pos c32] at H
             have c32b0 : decide (x5_2 < (l1_5.length : Int)) = true := decide_eq_true c32
             clear c32
             by_cases c33 : (rdOf ByteArray.empty l0_5 x5_2).toList = (rdOf ByteArray.empty l1_5 x5_2).toList
             · rw [if_pos c33] at H
               have c33b0 : ((rdOf ByteArray.empty l0_5 x5_2).toList == (rdOf ByteArray.empty l1_5 x5_2).toList) = true := beq_iff_eq.mpr c33
               have c33b1 : ((rdOf ByteArray.empty l0_5 x5_2).toList != (rdOf ByteArray.empty l1_5 x5_2).toList) = false := bne_eq_false_iff_eq.mpr c33
               clear c33
               have H' := Aside0.mk H
               clear H
               have hnb34 := NB309_310.out
               have hnc34 := NB310_309.out
               obtain ⟨hcz35_0, hcz35_1, hcz35_2, hcz35_3, hcz35_4, hcz35_5, hfz35_0, hfz35_1, hfz35_2, hfz35_3, hfz35_4, hfz35_5⟩ := cz6_ BK309.out
               have p311 : 0 ≤ (x5_2 : Int) := of_decide_eq_true (by assumption)
               have q311 : x5_2 < (l0_5.length : Int) := of_decide_eq_true (by assumption)
               obtain ⟨ad311, e311, hx311_0⟩ := Kd.at_string HR0_5.out x5_2 p311 q311
               cases e311
               replace hx311_0 := (HB.out.cell (World.block_lt_of_cell? w _ hx311_0)).trans hx311_0
               replace p311 := eq_true p311
               replace q311 := eq_true q311
               obtain ⟨hcz36_0, hcz36_1, hcz36_2, hcz36_3, hcz36_4, hcz36_5, hfz36_0, hfz36_1, hfz36_2, hfz36_3, hfz36_4, hfz36_5⟩ := cz6_ BK310.out
               have p312 : 0 ≤ (x5_2 : Int) := of_decide_eq_true (by assumption)
               have q312 : x5_2 < (l1_5.length : Int) := of_decide_eq_true (by assumption)
               obtain ⟨ad312, e312, hx312_0⟩ := Kd.at_string HR1_5.out x5_2 p312 q312
               cases e312
               replace hx312_0 := (HB.out.cell (World.block_lt_of_cell? w _ hx312_0)).trans hx312_0
               replace p312 := eq_true p312
               replace q312 := eq_true q312
               go_wp2
               repeat (go_quiet (fail); try go_wp2)
               go_roundg k2
               case measure => have := HJ2.out; have := HK2.out; omega
               case rel => exact ⟨(wrap64 (x5_2 + 1)), rfl, H', ⟨by have := HJ2.out; have := HK2.out; omega⟩, ⟨by ((with_reducible repeat (refine blk_drewN ?_ _)); exact BK309.out)⟩, ⟨by ((with_reducible repeat (refine blk_drewN ?_ _)); exact BK310.out)⟩, ⟨by (repeat (with_reducible first | exact HB.out | apply pw_below_drewN))⟩⟩
             · rw [if_neg c33] at H
               have c33b0 : ((rdOf ByteArray.empty l0_5 x5_2).toList == (rdOf ByteArray.empty l1_5 x5_2).toList) = false := beq_eq_false_iff_ne.mpr c33
               have c33b1 : ((rdOf ByteArray.empty l0_5 x5_2).toList != (rdOf ByteArray.empty l1_5 x5_2).toList) = true := bne_iff_ne.mpr c33
               obtain rfl := Option.some.inj H
               have hnb37 := NB309_310.out
               have hnc37 := NB310_309.out
               obtain ⟨hcz38_0, hcz38_1, hcz38_2, hcz38_3, hcz38_4, hcz38_5, hfz38_0, hfz38_1, hfz38_2, hfz38_3, hfz38_4, hfz38_5⟩ := cz6_ BK309.out
               have p311 : 0 ≤ (x5_2 : Int) := of_decide_eq_true (by assumption)
               have q311 : x5_2 < (l0_5.length : Int) := of_decide_eq_true (by assumption)
               obtain ⟨ad311, e311, hx311_0⟩ := Kd.at_string HR0_5.out x5_2 p311 q311
               cases e311
               replace hx311_0 := (HB.out.cell (World.block_lt_of_cell? w _ hx311_0)).trans hx311_0
               replace p311 := eq_true p311
               replace q311 := eq_true q311
               obtain ⟨hcz39_0, hcz39_1, hcz39_2, hcz39_3, hcz39_4, hcz39_5, hfz39_0, hfz39_1, hfz39_2, hfz39_3, hfz39_4, hfz39_5⟩ := cz6_ BK310.out
               have p312 : 0 ≤ (x5_2 : Int) := of_decide_eq_true (by assumption)
               have q312 : x5_2 < (l1_5.length : Int) := of_decide_eq_true (by assumption)
               obtain ⟨ad312, e312, hx312_0⟩ := Kd.at_string HR1_5.out x5_2 p312 q312
               cases e312
               replace hx312_0 := (HB.out.cell (World.block_lt_of_cell? w _ hx312_0)).trans hx312_0
               replace p312 := eq_true p312
               replace q312 := eq_true q312
               go_wp2
               repeat (go_quiet (fail); try go_wp2)
               go_ret
               exact ⟨by (rfl), by (repeat (with_reducible first | exact HB.out | apply pw_below_drewN))⟩
           · rw [if_neg c32] at H
             exact absurd H (by simp)
         · rw [if_neg c31] at H
           exact absurd H (by simp)
       · rw [if_neg c30] at H
         have c30b0 : decide (x5_2 < (l0_5.length : Int)) = false := decide_eq_false c30
         clear c30
         obtain rfl := Option.some.inj H
         have hnb40 := NB309_310.out
         have hnc40 := NB310_309.out
         obtain ⟨hcz41_0, hcz41_1, hcz41_2, hcz41_3, hcz41_4, hcz41_5, hfz41_0, hfz41_1, hfz41_2, hfz41_3, hfz41_4, hfz41_5⟩ := cz6_ BK309.out
         go_wp2
         repeat (go_quiet (fail); try go_wp2)
         go_ret
         exact ⟨by (rfl), by (with_reducible exact HB.out)⟩
end Go.Proofs.YtmimipgmhgalaaaGreatDoor.PAll
end
section
namespace Go.Proofs.YtmimipgmhgalaaaGreatDoor.PAll
open Go.RowKit Go.Proofs.YtmimipgmhgalaaaGreatDoorW.PrintWords Go.Proofs.YtmimipgmhgalaaaGreatDoorW.PrintLast Go.Proofs.YtmimipgmhgalaaaGreatDoorW.PrintMore
attribute [local go_sem] max2_int min2_int max_two min_two max_three min_three max_four min_four
set_option linter.unusedVariables false
set_option linter.unusedSimpArgs false
def wicketlaw11_list.l0 : Nat → List (S40) → List (S43) → Int → Option (Bool)
 | 0, _, _, _ => none
 | k + 1, x0, x1, x5 => if x5 < (x0.length : Int) then (if 0 ≤ x5 then (if x5 < (x1.length : Int) then ((wicketlaw11_same.f k ((rd_T40 x0 x5).f0) ((rd_T40 x0 x5).f1) ((rd_T40 x0 x5).f2) ((rd_T40 x0 x5).f3) ((rd_T40 x0 x5).f4) ((rd_T40 x0 x5).f5) ((rd_T43 x1 x5).f0) ((rd_T43 x1 x5).f1) ((rd_T43 x1 x5).f2) ((rd_T43 x1 x5).f3) ((rd_T43 x1 x5).f4) ((rd_T43 x1 x5).f5)).bind fun t315 => (if t315 = true then (wicketlaw11_list.l0 k x0 x1 (wrap64 (x5 + 1))) else (some false))) else (none)) else (none)) else (some true)
def wicketlaw11_list.f (k : Nat) (l0 : List (S40)) (l1 : List (S43)) : Option (Bool) := if (l0.length : Int) = (l1.length : Int) then (wicketlaw11_list.l0 k l0 l1 0) else (some false)
def wicketlaw11_list.T6 : Bool × List (List Nat × List Nat) := (true, [([], []), ([], []), ([0, 1], [0, 1]), ([2], [2]), ([], []), ([], []), ([4, 5], [4, 5]), ([6], [6]), ([3, 7], [3, 7]), ([8], [8])])
def wicketlaw11_list.B6 : List Nat := [0, 0, 3, 7, 0, 0, 48, 112, 255, 511]
theorem wicketlaw11_list.tab6 : rtab .any (opsOf Tryz.f20 6) = wicketlaw11_list.T6 := by kernel_rfl
theorem wicketlaw11_list.bits6 : waitsOk wicketlaw11_list.T6.2 wicketlaw11_list.B6 = true := by kernel_rfl
set_option maxHeartbeats 8000000 in
set_option maxRecDepth 100000 in
theorem wicketlaw11_list.calls (k : Nat) (A0 : Option Addr) (c0 : Nat) (l0 : List (S40)) (A1 : Option Addr) (c1 : Nat) (l1 : List (S43)) (r : Bool) (w : World) (hr0 : Kd.C k40 w A0 l0.length l0) (hc0 : l0.length ≤ c0) (hr1 : Kd.C k43 w A1 l1.length l1) (hc1 : l1.length ≤ c1) (h : wicketlaw11_list.f k l0 l1 = some r) :
 Calls Tryz.prog 20 #[.slice A0 l0.length c0, .slice A1 l1.length c1] w fun e w' => e = .returned (.bool r) ∧ Below w.heap.size w w' := by
 have hu40 := Tryz.underlying40
 have hu43 := Tryz.underlying43
 have HR0 := Aside0.mk hr0
 have HC0 := Aside0.mk hc0
 clear hr0 hc0
 have HR1 := Aside0.mk hr1
 have HC1 := Aside0.mk hc1
 clear hr1 hc1
 have HB := Aside0.mk (Below.refl w.heap.size w)
 have H : (if (l0.length : Int) = (l1.length : Int) then (wicketlaw11_list.l0 k l0 l1 0) else (some false)) = some r := h
 clear h
 by_cases c3 : (l0.length : Int) = (l1.length : Int)
 · rw [if_pos c3] at H
   have c3b0 : ((l0.length : Int) == (l1.length : Int)) = true := beq_iff_eq.mpr c3
   have c3b1 : ((l0.length : Int) != (l1.length : Int)) = false := bne_eq_false_iff_eq.mpr c3
   have c3b2 : (l0.length == l1.length) = true := by (simp at c3 ⊢; omega)
   clear c3
   have H' := Aside0.mk H
   clear H
   go_enter Tryz.func20, Tryz.ntmps20
   go_wp2
   go_loopg [5] k (fun kq v5 w' => ∃ (x5_1 : Int), v5 = .int .i64 x5_1 ∧ Aside0 (wicketlaw11_list.l0 kq l0 l1 x5_1 = some r) ∧ Aside0 (kq ≤ k) ∧ Aside0 (Below w.heap.size w w'))
   case atStart => exact ⟨(0), rfl, H', ⟨Nat.le_refl _⟩, ⟨HB.out⟩⟩
   case round =>
    clear H' c3b0 c3b1 c3b2
    obtain ⟨x5_1, rfl, HA, HK1, HB⟩ := hrel
    cases gk with
    | zero => exact absurd HA.out (by simp [wicketlaw11_list.l0])
    | succ k1 =>
     have H := HA.out
     clear HA
     simp only [wicketlaw11_list.l0] at H
     by_cases c4 : x5_1 < (l0.length : Int)
     · rw [if_pos c4] at H
       have c4b0 : decide (x5_1 < (l0.length : Int)) = true := decide_eq_true c4
       clear c4
       by_cases c5 : 0 ≤ x5_1
       · rw [if_pos c5] at H
         have c5b0 : decide (0 ≤ x5_1) = true := decide_eq_true c5
         clear c5
         by_cases c6 : x5_1 < (l1.length : Int)
         · rw [if_pos c6] at H
           have c6b0 : decide (x5_1 < (l1.length : Int)) = true := decide_eq_true c6
           clear c6
           replace H := Option.bind_eq_some_iff.mp H
           obtain ⟨t315, A70, H⟩ := H
           replace H : (if t315 = true then (wicketlaw11_list.l0 k1 l0 l1 (wrap64 (x5_1 + 1))) else (some false)) = some r := H
           have A7 := Aside0.mk A70
           clear A70
           by_cases c8 : t315 = true
           · subst c8
             have H1 : (wicketlaw11_list.l0 k1 l0 l1 (wrap64 (x5_1 + 1))) = some r := by rw [if_pos rfl] at H; exact H
             clear H
             have H := H1
             clear H1
             have H' := Aside0.mk H
             clear H
             try go_wp2
             have n0_ := Aside0.mk (below_drew1 HB.out)
             clear HB
             have HB := n0_
             clear n0_
             have p313 : 0 ≤ (x5_1 : Int) := of_decide_eq_true (by assumption)
             have q313 : x5_1 < (l0.length : Int) := of_decide_eq_true (by assumption)
             obtain ⟨ad313, A313_5, c313_5, e313, hx313_0, hx313_1, hx313_2, hx313_3, hx313_4, hx313_5, hl313_5, hi313_5⟩ := at_T40 HR0.out x5_1 p313 q313
             have hw313_5 := hx313_5
             have hw313_4 := hx313_4
             have hw313_3 := hx313_3
             have hw313_2 := hx313_2
             have hw313_1 := hx313_1
             have hw313_0 := hx313_0
             cases e313
             replace hx313_0 := (HB.out.cell (World.block_lt_of_cell? w _ hx313_0)).trans hx313_0
             replace hx313_1 := (HB.out.cell (World.block_lt_of_cell? w _ hx313_1)).trans hx313_1
             replace hx313_2 := (HB.out.cell (World.block_lt_of_cell? w _ hx313_2)).trans hx313_2
             replace hx313_3 := (HB.out.cell (World.block_lt_of_cell? w _ hx313_3)).trans hx313_3
             replace hx313_4 := (HB.out.cell (World.block_lt_of_cell? w _ hx313_4)).trans hx313_4
             replace hx313_5 := (HB.out.cell (World.block_lt_of_cell? w _ hx313_5)).trans hx313_5
             have HR313_5 := Aside0.mk hi313_5
             have HC313_5 := Aside0.mk hl313_5
             clear hi313_5 hl313_5
             replace p313 := eq_true p313
             replace q313 := eq_true q313
             have p314 : 0 ≤ (x5_1 : Int) := of_decide_eq_true (by assumption)
             have q314 : x5_1 < (l1.length : Int) := of_decide_eq_true (by assumption)
             obtain ⟨ad314, A314_5, c314_5, e314, hx314_0, hx314_1, hx314_2, hx314_3, hx314_4, hx314_5, hl314_5, hi314_5⟩ := at_T43 HR1.out x5_1 p314 q314
             have hw314_5 := hx314_5
             have hw314_4 := hx314_4
             have hw314_3 := hx314_3
             have hw314_2 := hx314_2
             have hw314_1 := hx314_1
             have hw314_0 := hx314_0
             cases e314
             replace hx314_0 := (HB.out.cell (World.block_lt_of_cell? w _ hx314_0)).trans hx314_0
             replace hx314_1 := (HB.out.cell (World.block_lt_of_cell? w _ hx314_1)).trans hx314_1
             replace hx314_2 := (HB.out.cell (World.block_lt_of_cell? w _ hx314_2)).trans hx314_2
             replace hx314_3 := (HB.out.cell (World.block_lt_of_cell? w _ hx314_3)).trans hx314_3
             replace hx314_4 := (HB.out.cell (World.block_lt_of_cell? w _ hx314_4)).trans hx314_4
             replace hx314_5 := (HB.out.cell (World.block_lt_of_cell? w _ hx314_5)).trans hx314_5
             have HR314_5 := Aside0.mk hi314_5
             have HC314_5 := Aside0.mk hl314_5
             clear hi314_5 hl314_5
             replace p314 := eq_true p314
             replace q314 := eq_true q314
             refine start_ (n := 10) (S := fun w' => w'.cell? (ad313.add ((x5_1).toNat * 6)) = some (.string ((rd_T40 l0 x5_1).f0)) ∧ w'.cell? ⟨(ad313.add ((x5_1).toNat * 6)).block, (ad313.add ((x5_1).toNat * 6)).off + 1, none⟩ = some (.string ((rd_T40 l0 x5_1).f1)) ∧ w'.cell? ⟨(ad313.add ((x5_1).toNat * 6)).block, (ad313.add ((x5_1).toNat * 6)).off + 2, none⟩ = some (.int .i64 ((rd_T40 l0 x5_1).f2)) ∧ w'.cell? ⟨(ad313.add ((x5_1).toNat * 6)).block, (ad313.add ((x5_1).toNat * 6)).off + 3, none⟩ = some (.bool ((rd_T40 l0 x5_1).f3)) ∧ w'.cell? ⟨(ad313.add ((x5_1).toNat * 6)).block, (ad313.add ((x5_1).toNat * 6)).off + 4, none⟩ = some (.string ((rd_T40 l0 x5_1).f4)) ∧ w'.cell? ⟨(ad313.add ((x5_1).toNat * 6)).block, (ad313.add ((x5_1).toNat * 6)).off + 5, none⟩ = some (.slice A313_5 ((rd_T40 l0 x5_1).f5).length c313_5) ∧ w'.cell? (ad314.add ((x5_1).toNat * 6)) = some (.string ((rd_T43 l1 x5_1).f0)) ∧ w'.cell? ⟨(ad314.add ((x5_1).toNat * 6)).block, (ad314.add ((x5_1).toNat * 6)).off + 1, none⟩ = some (.string ((rd_T43 l1 x5_1).f1)) ∧ w'.cell? ⟨(ad314.add ((x5_1).toNat * 6)).block, (ad314.add ((x5_1).toNat * 6)).off + 2, none⟩ = some (.int .i64 ((rd_T43 l1 x5_1).f2)) ∧ w'.cell? ⟨(ad314.add ((x5_1).toNat * 6)).block, (ad314.add ((x5_1).toNat * 6)).off + 3, none⟩ = some (.bool ((rd_T43 l1 x5_1).f3)) ∧ w'.cell? ⟨(ad314.add ((x5_1).toNat * 6)).block, (ad314.add ((x5_1).toNat * 6)).off + 4, none⟩ = some (.string ((rd_T43 l1 x5_1).f4)) ∧ w'.cell? ⟨(ad314.add ((x5_1).toNat * 6)).block, (ad314.add ((x5_1).toNat * 6)).off + 5, none⟩ = some (.slice A314_5 ((rd_T43 l1 x5_1).f5).length c314_5)) (ds := []) #[false, false, false, false, false, false, false, false, false, false] (by kernel_rfl) rfl rfl ⟨((HB.out.cell (World.block_lt_of_cell? w _ hw313_0)).trans hw313_0), ((HB.out.cell (World.block_lt_of_cell? w _ hw313_1)).trans hw313_1), ((HB.out.cell (World.block_lt_of_cell? w _ hw313_2)).trans hw313_2), ((HB.out.cell (World.block_lt_of_cell? w _ hw313_3)).trans hw313_3), ((HB.out.cell (World.block_lt_of_cell? w _ hw313_4)).trans hw313_4), ((HB.out.cell (World.block_lt_of_cell? w _ hw313_5)).trans hw313_5), ((HB.out.cell (World.block_lt_of_cell? w _ hw314_0)).trans hw314_0), ((HB.out.cell (World.block_lt_of_cell? w _ hw314_1)).trans hw314_1), ((HB.out.cell (World.block_lt_of_cell? w _ hw314_2)).trans hw314_2), ((HB.out.cell (World.block_lt_of_cell? w _ hw314_3)).trans hw314_3), ((HB.out.cell (World.block_lt_of_cell? w _ hw314_4)).trans hw314_4), ((HB.out.cell (World.block_lt_of_cell? w _ hw314_5)).trans hw314_5)⟩ (fun hHeld => ?_); refine with_tabW wicketlaw11_list.tab6 wicketlaw11_list.bits6 (fun HT_ HW_ => ?_)
             generalize wr.drew = w9 at HB HR313_5 HR314_5 hx313_0 hx313_1 hx313_2 hx313_3 hx313_4 hx313_5 hx314_0 hx314_1 hx314_2 hx314_3 hx314_4 hx314_5 hHeld ⊢
             refine pure_ (i := 0) (N := some 17) (v := ?_) (a' := ?_) #[true, false, false, false, false, false, false, false, false, false] rfl rfl (any_of HT_.out (by kernel_rfl)) (fun _ _ _ h => h) (Or.inl ⟨by rfl, ?_⟩) ?_ ?_
             rotate_left
             · intro w'
               go_simp
               with_reducible rfl
             rotate_left
             · simp only [Act.put, List.setIfInBounds_toArray, List.set_cons_zero, List.set_cons_succ, i64_w, i32_w]
               rfl
             refine pure_ (i := 1) (N := some 18) (v := ?_) (a' := ?_) #[true, true, false, false, false, false, false, false, false, false] rfl rfl (any_of HT_.out (by kernel_rfl)) (fun _ _ _ h => h) (Or.inl ⟨by rfl, ?_⟩) ?_ ?_
             rotate_left
             · intro w'
               go_simp
               with_reducible rfl
             rotate_left
             · simp only [Act.put, List.setIfInBounds_toArray, List.set_cons_zero, List.set_cons_succ, i64_w, i32_w]
               rfl
             refine pure_ (i := 2) (N := some 19) (v := ?_) (a' := ?_) #[true, true, true, false, false, false, false, false, false, false] rfl rfl (any_of HT_.out (by kernel_rfl)) (fun _ _ _ h => h) (Or.inl ⟨by rfl, ?_⟩) ?_ ?_
             rotate_left
             · intro w'
               go_simp
               with_reducible rfl
             rotate_left
             · simp only [Act.put, List.setIfInBounds_toArray, List.set_cons_zero, List.set_cons_succ, i64_w, i32_w]
               rfl
             refine pure_ (i := 4) (N := some 21) (v := ?_) (a' := ?_) #[true, true, true, false, true, false, false, false, false, false] rfl rfl (any_of HT_.out (by kernel_rfl)) (fun _ _ _ h => h) (Or.inl ⟨by rfl, ?_⟩) ?_ ?_
             rotate_left
             · intro w'
               go_simp
               with_reducible rfl
             rotate_left
             · simp only [Act.put, List.setIfInBounds_toArray, List.set_cons_zero, List.set_cons_succ, i64_w, i32_w]
               rfl
             refine pure_ (i := 5) (N := some 22) (v := ?_) (a' := ?_) #[true, true, true, false, true, true, false, false, false, false] rfl rfl (any_of HT_.out (by kernel_rfl)) (fun _ _ _ h => h) (Or.inl ⟨by rfl, ?_⟩) ?_ ?_
             rotate_left
             · intro w'
               go_simp
               with_reducible rfl
             rotate_left
             · simp only [Act.put, List.setIfInBounds_toArray, List.set_cons_zero, List.set_cons_succ, i64_w, i32_w]
               rfl
             refine pure_ (i := 6) (N := some 23) (v := ?_) (a' := ?_) #[true, true, true, false, true, true, true, false, false, false] rfl rfl (any_of HT_.out (by kernel_rfl)) (fun _ _ _ h => h) (Or.inl ⟨by rfl, ?_⟩) ?_ ?_
             rotate_left
             · intro w'
               go_simp
               with_reducible rfl
             rotate_left
             · simp only [Act.put, List.setIfInBounds_toArray, List.set_cons_zero, List.set_cons_succ, i64_w, i32_w]
               rfl
             refine take_ (i := 3) (N := some 20) (v := ?_) (a' := ?_) #[true, true, true, true, true, true, true, false, false, false] rfl rfl (take_ofW HT_.out HW_.out (by kernel_rfl)) (fun _ _ _ h => h) (Or.inl ⟨by rfl, ?_⟩) hHeld ?_ ?_
             rotate_left
             · rintro w' ⟨s0, s1, s2, s3, s4, s5, s6, s7, s8, s9, s10, s11⟩
               go_simp
               with_reducible rfl
             rotate_left
             · simp only [Act.put, List.setIfInBounds_toArray, List.set_cons_zero, List.set_cons_succ, i64_w, i32_w]
               rfl
             refine take_ (i := 7) (N := some 24) (v := ?_) (a' := ?_) #[true, true, true, true, true, true, true, true, false, false] rfl rfl (take_ofW HT_.out HW_.out (by kernel_rfl)) (fun _ _ _ h => h) (Or.inl ⟨by rfl, ?_⟩) hHeld ?_ ?_
             rotate_left
             · rintro w' ⟨s0, s1, s2, s3, s4, s5, s6, s7, s8, s9, s10, s11⟩
               go_simp
               with_reducible rfl
             rotate_left
             · simp only [Act.put, List.setIfInBounds_toArray, List.set_cons_zero, List.set_cons_succ, i64_w, i32_w]
               rfl
             refine one_ (i := 8) (N := some 25) #[true, true, true, true, true, true, true, true, true, false] rfl rfl (one_of HT_.out (by kernel_rfl)) (by decide) (fun K hK => ?_)
             refine goes_ Tryz.func31 (by kernel_rfl) rfl #[.agg #[.string ((rd_T40 l0 x5_1).f0), .string ((rd_T40 l0 x5_1).f1), .int .i64 ((rd_T40 l0 x5_1).f2), .bool ((rd_T40 l0 x5_1).f3), .string ((rd_T40 l0 x5_1).f4), .slice A313_5 ((rd_T40 l0 x5_1).f5).length c313_5], .agg #[.string ((rd_T43 l1 x5_1).f0), .string ((rd_T43 l1 x5_1).f1), .int .i64 ((rd_T43 l1 x5_1).f2), .bool ((rd_T43 l1 x5_1).f3), .string ((rd_T43 l1 x5_1).f4), .slice A314_5 ((rd_T43 l1 x5_1).f5).length c314_5]] rfl rfl rfl (by ((try simp only [List.map_toArray, List.map_cons, List.map_nil]); (rfl))) ?_
             with_reducible refine (wicketlaw11_same.calls k1 ((rd_T40 l0 x5_1).f0) ((rd_T40 l0 x5_1).f1) ((rd_T40 l0 x5_1).f2) ((rd_T40 l0 x5_1).f3) ((rd_T40 l0 x5_1).f4) _ _ ((rd_T40 l0 x5_1).f5) ((rd_T43 l1 x5_1).f0) ((rd_T43 l1 x5_1).f1) ((rd_T43 l1 x5_1).f2) ((rd_T43 l1 x5_1).f3) ((rd_T43 l1 x5_1).f4) _ _ ((rd_T43 l1 x5_1).f5) true _ ?side1 ?side2 ?side3 ?side4 A7.out).mono ?_
             (case side1 => repeat (exact (Kd.C_below HR313_5.out HB.out)))
             (case side2 => exact HC313_5.out)
             (case side3 => repeat (exact (Kd.C_below HR314_5.out HB.out)))
             (case side4 => exact HC314_5.out)
             rintro e w10 ⟨rfl, hb⟩
             refine ⟨_, rfl, ?_⟩
             have n0_ := Aside0.mk (below_step HB.out hb)
             clear HB
             have HB := n0_
             clear n0_ hb
             refine hK.out _ _ ⟨((HB.out.cell (World.block_lt_of_cell? w _ hw313_0)).trans hw313_0), ((HB.out.cell (World.block_lt_of_cell? w _ hw313_1)).trans hw313_1), ((HB.out.cell (World.block_lt_of_cell? w _ hw313_2)).trans hw313_2), ((HB.out.cell (World.block_lt_of_cell? w _ hw313_3)).trans hw313_3), ((HB.out.cell (World.block_lt_of_cell? w _ hw313_4)).trans hw313_4), ((HB.out.cell (World.block_lt_of_cell? w _ hw313_5)).trans hw313_5), ((HB.out.cell (World.block_lt_of_cell? w _ hw314_0)).trans hw314_0), ((HB.out.cell (World.block_lt_of_cell? w _ hw314_1)).trans hw314_1), ((HB.out.cell (World.block_lt_of_cell? w _ hw314_2)).trans hw314_2), ((HB.out.cell (World.block_lt_of_cell? w _ hw314_3)).trans hw314_3), ((HB.out.cell (World.block_lt_of_cell? w _ hw314_4)).trans hw314_4), ((HB.out.cell (World.block_lt_of_cell? w _ hw314_5)).trans hw314_5)⟩ (fun hHeld => ?_)
             clear hK K
             refine norm_ (a' := ?_) ?_ ?_
             rotate_left
             · show Act.put _ (some 25) _ = _
               simp only [Act.put, List.setIfInBounds_toArray, List.set_cons_zero, List.set_cons_succ, i64_w, i32_w]
               rfl
             refine pure_ (i := 9) (N := some 26) (v := ?_) (a' := ?_) #[true, true, true, true, true, true, true, true, true, true] rfl rfl (any_of HT_.out (by kernel_rfl)) (fun _ _ _ h => h) (Or.inl ⟨by rfl, ?_⟩) ?_ ?_
             rotate_left
             · intro w'
               go_simp
               with_reducible rfl
             rotate_left
             · simp only [Act.put, List.setIfInBounds_toArray, List.set_cons_zero, List.set_cons_succ, i64_w, i32_w]
               rfl
             refine done_ (done_of HT_.out (by kernel_rfl)) ?_
             try go_wp2
             go_roundg k1
             case measure => have := HK1.out; omega
             case rel => exact ⟨(wrap64 (x5_1 + 1)), rfl, H', ⟨by have := HK1.out; omega⟩, ⟨HB.out⟩⟩
           · replace c8 := Bool.eq_false_iff.mpr c8
             subst c8
             have H1 : (some false) = some r := by rw [if_neg (show ¬ (false = true) by decide)] at H; exact H
             clear H
             have H := H1
             clear H1
             obtain rfl := Option.some.inj H
             try go_wp2
             have n0_ := Aside0.mk (below_drew1 HB.out)
             clear HB
             have HB := n0_
             clear n0_
             have p313 : 0 ≤ (x5_1 : Int) := of_decide_eq_true (by assumption)
             have q313 : x5_1 < (l0.length : Int) := of_decide_eq_true (by assumption)
             obtain ⟨ad313, A313_5, c313_5, e313, hx313_0, hx313_1, hx313_2, hx313_3, hx313_4, hx313_5, hl313_5, hi313_5⟩ := at_T40 HR0.out x5_1 p313 q313
             have hw313_5 := hx313_5
             have hw313_4 := hx313_4
             have hw313_3 := hx313_3
             have hw313_2 := hx313_2
             have hw313_1 := hx313_1
             have hw313_0 := hx313_0
             cases e313
             replace hx313_0 := (HB.out.cell (World.block_lt_of_cell? w _ hx313_0)).trans hx313_0
             replace hx313_1 := (HB.out.cell (World.block_lt_of_cell? w _ hx313_1)).trans hx313_1
             replace hx313_2 := (HB.out.cell (World.block_lt_of_cell? w _ hx313_2)).trans hx313_2
             replace hx313_3 := (HB.out.cell (World.block_lt_of_cell? w _ hx313_3)).trans hx313_3
             replace hx313_4 := (HB.out.cell (World.block_lt_of_cell? w _ hx313_4)).trans hx313_4
             replace hx313_5 := (HB.out.cell (World.block_lt_of_cell? w _ hx313_5)).trans hx313_5
             have HR313_5 := Aside0.mk hi313_5
             have HC313_5 := Aside0.mk hl313_5
             clear hi313_5 hl313_5
             replace p313 := eq_true p313
             replace q313 := eq_true q313
             have p314 : 0 ≤ (x5_1 : Int) := of_decide_eq_true (by assumption)
             have q314 : x5_1 < (l1.length : Int) := of_decide_eq_true (by assumption)
             obtain ⟨ad314, A314_5, c314_5, e314, hx314_0, hx314_1, hx314_2, hx314_3, hx314_4, hx314_5, hl314_5, hi314_5⟩ := at_T43 HR1.out x5_1 p314 q314
             have hw314_5 := hx314_5
             have hw314_4 := hx314_4
             have hw314_3 := hx314_3
             have hw314_2 := hx314_2
             have hw314_1 := hx314_1
             have hw314_0 := hx314_0
             cases e314
             replace hx314_0 := (HB.out.cell (World.block_lt_of_cell? w _ hx314_0)).trans hx314_0
             replace hx314_1 := (HB.out.cell (World.block_lt_of_cell? w _ hx314_1)).trans hx314_1
             replace hx314_2 := (HB.out.cell (World.block_lt_of_cell? w _ hx314_2)).trans hx314_2
             replace hx314_3 := (HB.out.cell (World.block_lt_of_cell? w _ hx314_3)).trans hx314_3
             replace hx314_4 := (HB.out.cell (World.block_lt_of_cell? w _ hx314_4)).trans hx314_4
             replace hx314_5 := (HB.out.cell (World.block_lt_of_cell? w _ hx314_5)).trans hx314_5
             have HR314_5 := Aside0.mk hi314_5
             have HC314_5 := Aside0.mk hl314_5
             clear hi314_5 hl314_5
             replace p314 := eq_true p314
             replace q314 := eq_true q314
             refine start_ (n := 10) (S := fun w' => w'.cell? (ad313.add ((x5_1).toNat * 6)) = some (.string ((rd_T40 l0 x5_1).f0)) ∧ w'.cell? ⟨(ad313.add ((x5_1).toNat * 6)).block, (ad313.add ((x5_1).toNat * 6)).off + 1, none⟩ = some (.string ((rd_T40 l0 x5_1).f1)) ∧ w'.cell? ⟨(ad313.add ((x5_1).toNat * 6)).block, (ad313.add ((x5_1).toNat * 6)).off + 2, none⟩ = some (.int .i64 ((rd_T40 l0 x5_1).f2)) ∧ w'.cell? ⟨(ad313.add ((x5_1).toNat * 6)).block, (ad313.add ((x5_1).toNat * 6)).off + 3, none⟩ = some (.bool ((rd_T40 l0 x5_1).f3)) ∧ w'.cell? ⟨(ad313.add ((x5_1).toNat * 6)).block, (ad313.add ((x5_1).toNat * 6)).off + 4, none⟩ = some (.string ((rd_T40 l0 x5_1).f4)) ∧ w'.cell? ⟨(ad313.add ((x5_1).toNat * 6)).block, (ad313.add ((x5_1).toNat * 6)).off + 5, none⟩ = some (.slice A313_5 ((rd_T40 l0 x5_1).f5).length c313_5) ∧ w'.cell? (ad314.add ((x5_1).toNat * 6)) = some (.string ((rd_T43 l1 x5_1).f0)) ∧ w'.cell? ⟨(ad314.add ((x5_1).toNat * 6)).block, (ad314.add ((x5_1).toNat * 6)).off + 1, none⟩ = some (.string ((rd_T43 l1 x5_1).f1)) ∧ w'.cell? ⟨(ad314.add ((x5_1).toNat * 6)).block, (ad314.add ((x5_1).toNat * 6)).off + 2, none⟩ = some (.int .i64 ((rd_T43 l1 x5_1).f2)) ∧ w'.cell? ⟨(ad314.add ((x5_1).toNat * 6)).block, (ad314.add ((x5_1).toNat * 6)).off + 3, none⟩ = some (.bool ((rd_T43 l1 x5_1).f3)) ∧ w'.cell? ⟨(ad314.add ((x5_1).toNat * 6)).block, (ad314.add ((x5_1).toNat * 6)).off + 4, none⟩ = some (.string ((rd_T43 l1 x5_1).f4)) ∧ w'.cell? ⟨(ad314.add ((x5_1).toNat * 6)).block, (ad314.add ((x5_1).toNat * 6)).off + 5, none⟩ = some (.slice A314_5 ((rd_T43 l1 x5_1).f5).length c314_5)) (ds := []) #[false, false, false, false, false, false, false, false, false, false] (by kernel_rfl) rfl rfl ⟨((HB.out.cell (World.block_lt_of_cell? w _ hw313_0)).trans hw313_0), ((HB.out.cell (World.block_lt_of_cell? w _ hw313_1)).trans hw313_1), ((HB.out.cell (World.block_lt_of_cell? w _ hw313_2)).trans hw313_2), ((HB.out.cell (World.block_lt_of_cell? w _ hw313_3)).trans hw313_3), ((HB.out.cell (World.block_lt_of_cell? w _ hw313_4)).trans hw313_4), ((HB.out.cell (World.block_lt_of_cell? w _ hw313_5)).trans hw313_5), ((HB.out.cell (World.block_lt_of_cell? w _ hw314_0)).trans hw314_0), ((HB.out.cell (World.block_lt_of_cell? w _ hw314_1)).trans hw314_1), ((HB.out.cell (World.block_lt_of_cell? w _ hw314_2)).trans hw314_2), ((HB.out.cell (World.block_lt_of_cell? w _ hw314_3)).trans hw314_3), ((HB.out.cell (World.block_lt_of_cell? w _ hw314_4)).trans hw314_4), ((HB.out.cell (World.block_lt_of_cell? w _ hw314_5)).trans hw314_5)⟩ (fun hHeld => ?_); refine with_tabW wicketlaw11_list.tab6 wicketlaw11_list.bits6 (fun HT_ HW_ => ?_)
             generalize wr.drew = w11 at HB HR313_5 HR314_5 hx313_0 hx313_1 hx313_2 hx313_3 hx313_4 hx313_5 hx314_0 hx314_1 hx314_2 hx314_3 hx314_4 hx314_5 hHeld ⊢
             refine pure_ (i := 0) (N := some 17) (v := ?_) (a' := ?_) #[true, false, false, false, false, false, false, false, false, false] rfl rfl (any_of HT_.out (by kernel_rfl)) (fun _ _ _ h => h) (Or.inl ⟨by rfl, ?_⟩) ?_ ?_
             rotate_left
             · intro w'
               go_simp
               with_reducible rfl
             rotate_left
             · simp only [Act.put, List.setIfInBounds_toArray, List.set_cons_zero, List.set_cons_succ, i64_w, i32_w]
               rfl
             refine pure_ (i := 1) (N := some 18) (v := ?_) (a' := ?_) #[true, true, false, false, false, false, false, false, false, false] rfl rfl (any_of HT_.out (by kernel_rfl)) (fun _ _ _ h => h) (Or.inl ⟨by rfl, ?_⟩) ?_ ?_
             rotate_left
             · intro w'
               go_simp
               with_reducible rfl
             rotate_left
             · simp only [Act.put, List.setIfInBounds_toArray, List.set_cons_zero, List.set_cons_succ, i64_w, i32_w]
               rfl
             refine pure_ (i := 2) (N := some 19) (v := ?_) (a' := ?_) #[true, true, true, false, false, false, false, false, false, false] rfl rfl (any_of HT_.out (by kernel_rfl)) (fun _ _ _ h => h) (Or.inl ⟨by rfl, ?_⟩) ?_ ?_
             rotate_left
             · intro w'
               go_simp
               with_reducible rfl
             rotate_left
             · simp only [Act.put, List.setIfInBounds_toArray, List.set_cons_zero, List.set_cons_succ, i64_w, i32_w]
               rfl
             refine pure_ (i := 4) (N := some 21) (v := ?_) (a' := ?_) #[true, true, true, false, true, false, false, false, false, false] rfl rfl (any_of HT_.out (by kernel_rfl)) (fun _ _ _ h => h) (Or.inl ⟨by rfl, ?_⟩) ?_ ?_
             rotate_left
             · intro w'
               go_simp
               with_reducible rfl
             rotate_left
             · simp only [Act.put, List.setIfInBounds_toArray, List.set_cons_zero, List.set_cons_succ, i64_w, i32_w]
               rfl
             refine pure_ (i := 5) (N := some 22) (v := ?_) (a' := ?_) #[true, true, true, false, true, true, false, false, false, false] rfl rfl (any_of HT_.out (by kernel_rfl)) (fun _ _ _ h => h) (Or.inl ⟨by rfl, ?_⟩) ?_ ?_
             rotate_left
             · intro w'
               go_simp
               with_reducible rfl
             rotate_left
             · simp only [Act.put, List.setIfInBounds_toArray, List.set_cons_zero, List.set_cons_succ, i64_w, i32_w]
               rfl
             refine pure_ (i := 6) (N := some 23) (v := ?_) (a' := ?_) #[true, true, true, false, true, true, true, false, false, false] rfl rfl (any_of HT_.out (by kernel_rfl)) (fun _ _ _ h => h) (Or.inl ⟨by rfl, ?_⟩) ?_ ?_
             rotate_left
             · intro w'
               go_simp
               with_reducible rfl
             rotate_left
             · simp only [Act.put, List.setIfInBounds_toArray, List.set_cons_zero, List.set_cons_succ, i64_w, i32_w]
               rfl
             refine take_ (i := 3) (N := some 20) (v := ?_) (a' := ?_) #[true, true, true, true, true, true, true, false, false, false] rfl rfl (take_ofW HT_.out HW_.out (by kernel_rfl)) (fun _ _ _ h => h) (Or.inl ⟨by rfl, ?_⟩) hHeld ?_ ?_
             rotate_left
             · rintro w' ⟨s0, s1, s2, s3, s4, s5, s6, s7, s8, s9, s10, s11⟩
               go_simp
               with_reducible rfl
             rotate_left
             · simp only [Act.put, List.setIfInBounds_toArray, List.set_cons_zero, List.set_cons_succ, i64_w, i32_w]
               rfl
             refine take_ (i := 7) (N := some 24) (v := ?_) (a' := ?_) #[true, true, true, true, true, true, true, true, false, false] rfl rfl (take_ofW HT_.out HW_.out (by kernel_rfl)) (fun _ _ _ h => h) (Or.inl ⟨by rfl, ?_⟩) hHeld ?_ ?_
             rotate_left
             · rintro w' ⟨s0, s1, s2, s3, s4, s5, s6, s7, s8, s9, s10, s11⟩
               go_simp
               with_reducible rfl
             rotate_left
             · simp only [Act.put, List.setIfInBounds_toArray, List.set_cons_zero, List.set_cons_succ, i64_w, i32_w]
               rfl
             refine one_ (i := 8) (N := some 25) #[true, true, true, true, true, true, true, true, true, false] rfl rfl (one_of HT_.out (by kernel_rfl)) (by decide) (fun K hK => ?_)
             refine goes_ Tryz.func31 (by kernel_rfl) rfl #[.agg #[.string ((rd_T40 l0 x5_1).f0), .string ((rd_T40 l0 x5_1).f1), .int .i64 ((rd_T40 l0 x5_1).f2), .bool ((rd_T40 l0 x5_1).f3), .string ((rd_T40 l0 x5_1).f4), .slice A313_5 ((rd_T40 l0 x5_1).f5).length c313_5], .agg #[.string ((rd_T43 l1 x5_1).f0), .string ((rd_T43 l1 x5_1).f1), .int .i64 ((rd_T43 l1 x5_1).f2), .bool ((rd_T43 l1 x5_1).f3), .string ((rd_T43 l1 x5_1).f4), .slice A314_5 ((rd_T43 l1 x5_1).f5).length c314_5]] rfl rfl rfl (by ((try simp only [List.map_toArray, List.map_cons, List.map_nil]); (rfl))) ?_
             with_reducible refine (wicketlaw11_same.calls k1 ((rd_T40 l0 x5_1).f0) ((rd_T40 l0 x5_1).f1) ((rd_T40 l0 x5_1).f2) ((rd_T40 l0 x5_1).f3) ((rd_T40 l0 x5_1).f4) _ _ ((rd_T40 l0 x5_1).f5) ((rd_T43 l1 x5_1).f0) ((rd_T43 l1 x5_1).f1) ((rd_T43 l1 x5_1).f2) ((rd_T43 l1 x5_1).f3) ((rd_T43 l1 x5_1).f4) _ _ ((rd_T43 l1 x5_1).f5) false _ ?side1 ?side2 ?side3 ?side4 A7.out).mono ?_
             (case side1 => repeat (exact (Kd.C_below HR313_5.out HB.out)))
             (case side2 => exact HC313_5.out)
             (case side3 => repeat (exact (Kd.C_below HR314_5.out HB.out)))
             (case side4 => exact HC314_5.out)
             rintro e w12 ⟨rfl, hb⟩
             refine ⟨_, rfl, ?_⟩
             have n0_ := Aside0.mk (below_step HB.out hb)
             clear HB
             have HB := n0_
             clear n0_ hb
             refine hK.out _ _ ⟨((HB.out.cell (World.block_lt_of_cell? w _ hw313_0)).trans hw313_0), ((HB.out.cell (World.block_lt_of_cell? w _ hw313_1)).trans hw313_1), ((HB.out.cell (World.block_lt_of_cell? w _ hw313_2)).trans hw313_2), ((HB.out.cell (World.block_lt_of_cell? w _ hw313_3)).trans hw313_3), ((HB.out.cell (World.block_lt_of_cell? w _ hw313_4)).trans hw313_4), ((HB.out.cell (World.block_lt_of_cell? w _ hw313_5)).trans hw313_5), ((HB.out.cell (World.block_lt_of_cell? w _ hw314_0)).trans hw314_0), ((HB.out.cell (World.block_lt_of_cell? w _ hw314_1)).trans hw314_1), ((HB.out.cell (World.block_lt_of_cell? w _ hw314_2)).trans hw314_2), ((HB.out.cell (World.block_lt_of_cell? w _ hw314_3)).trans hw314_3), ((HB.out.cell (World.block_lt_of_cell? w _ hw314_4)).trans hw314_4), ((HB.out.cell (World.block_lt_of_cell? w _ hw314_5)).trans hw314_5)⟩ (fun hHeld => ?_)
             clear hK K
             refine norm_ (a' := ?_) ?_ ?_
             rotate_left
             · show Act.put _ (some 25) _ = _
               simp only [Act.put, List.setIfInBounds_toArray, List.set_cons_zero, List.set_cons_succ, i64_w, i32_w]
               rfl
             refine pure_ (i := 9) (N := some 26) (v := ?_) (a' := ?_) #[true, true, true, true, true, true, true, true, true, true] rfl rfl (any_of HT_.out (by kernel_rfl)) (fun _ _ _ h => h) (Or.inl ⟨by rfl, ?_⟩) ?_ ?_
             rotate_left
             · intro w'
               go_simp
               with_reducible rfl
             rotate_left
             · simp only [Act.put, List.setIfInBounds_toArray, List.set_cons_zero, List.set_cons_succ, i64_w, i32_w]
               rfl
             refine done_ (done_of HT_.out (by kernel_rfl)) ?_
             try go_wp2
             go_ret
             exact ⟨by (rfl), by (with_reducible exact HB.out)⟩
         · rw [if_neg c6] at H
           exact absurd H (by simp)
       · rw [if_neg c5] at H
         exact absurd H (by simp)
     · rw [if_neg c4] at H
       have c4b0 : decide (x5_1 < (l0.length : Int)) = false := decide_eq_false c4
       clear c4
       obtain rfl := Option.some.inj H
       go_wp2
       go_ret
       exact ⟨by (rfl), by (with_reducible exact HB.out)⟩
 · rw [if_neg c3] at H
   have c3b0 : ((l0.length : Int) == (l1.length : Int)) = false := beq_eq_false_iff_ne.mpr c3
   have c3b1 : ((l0.length : Int) != (l1.length : Int)) = true := bne_iff_ne.mpr c3
   have c3b2 : (l0.length == l1.length) = false := by (simp at c3 ⊢; omega)
   obtain rfl := Option.some.inj H
   go_enter Tryz.func20, Tryz.ntmps20
   go_wp2
   go_ret
   exact ⟨by (rfl), by (with_reducible exact HB.out)⟩
end Go.Proofs.YtmimipgmhgalaaaGreatDoor.PAll
end
section
namespace Go.Proofs.YtmimipgmhgalaaaGreatDoor.PAll
open Go.RowKit Go.Proofs.YtmimipgmhgalaaaGreatDoorW.PrintWords Go.Proofs.YtmimipgmhgalaaaGreatDoorW.PrintLast Go.Proofs.YtmimipgmhgalaaaGreatDoorW.PrintMore
attribute [local go_sem] max2_int min2_int max_two min_two max_three min_three max_four min_four
set_option linter.unusedVariables false
set_option linter.unusedSimpArgs false
def wicketref11_Find.l0 : Nat → List (S43) → ByteArray → Int → Option (ByteArray × ByteArray × Int × Bool × ByteArray × List ByteArray × Bool)
 | 0, _, _, _ => none
 | k + 1, x0, x1, x6 => if x6 < (x0.length : Int) then (if 0 ≤ x6 then (if ((rd_T43 x0 x6).f0).toList = x1.toList then (some ((rd_T43 x0 x6).f0, (rd_T43 x0 x6).f1, (rd_T43 x0 x6).f2, (rd_T43 x0 x6).f3, (rd_T43 x0 x6).f4, (rd_T43 x0 x6).f5, true)) else (wicketref11_Find.l0 k x0 x1 (wrap64 (x6 + 1)))) else (none)) else (some ((⟨#[]⟩ : ByteArray), (⟨#[]⟩ : ByteArray), 0, false, (⟨#[]⟩ : ByteArray), ([] : List ByteArray), false))
def wicketref11_Find.f (k : Nat) (l0 : List (S43)) (a1 : ByteArray) : Option (ByteArray × ByteArray × Int × Bool × ByteArray × List ByteArray × Bool) := wicketref11_Find.l0 k l0 a1 0
set_option maxHeartbeats 8000000 in
set_option maxRecDepth 100000 in
theorem wicketref11_Find.calls (k : Nat) (P0_ : Nat → Prop) (A0 : Option Addr) (c0 : Nat) (l0 : List (S43)) (a1 : ByteArray) (r1 : ByteArray) (r2 : ByteArray) (r3 : Int) (r4 : Bool) (r5 : ByteArray) (r6 : List ByteArray) (r7 : Bool) (w : World) (hs0 : Kd.V k43 43 w w.heap.size (fun k_ => P0_ k_) (.slice A0 l0.length c0) l0) (h : wicketref11_Find.f k l0 a1 = some (r1, r2, r3, r4, r5, r6, r7)) :
 Calls Tryz.prog 30 #[.slice A0 l0.length c0, .string a1] w fun e w' => ∃ v5_ : Value, e = .returned (.tuple #[.agg #[.string r1, .string r2, .int .i64 r3, .bool r4, .string r5, v5_], .bool r7]) ∧ Kd.V Kd.string 9 w' w.heap.size (fun k_ => (P0_ k_ ∨ w.heap.size ≤ k_)) v5_ r6 ∧ Below w.heap.size w w' := by
 have hu43 := Tryz.underlying43
 have HO0 := Aside0.mk (show Kd.V k43 43 w w.heap.size (fun k_ => (P0_ k_ ∨ w.heap.size ≤ k_)) (.slice A0 l0.length c0) l0 from Kd.V_mono hs0 (fun k_ hk => .inl hk))
 have HB := Aside0.mk (Below.refl w.heap.size w)
 have H : (wicketref11_Find.l0 k l0 a1 0) = some (r1, r2, r3, r4, r5, r6, r7) := h
 clear h
 have H' := Aside0.mk H
 clear H
 go_enter Tryz.func30, Tryz.ntmps30
 go_wp2_with (first | ((with_reducible refine gate_dst (N := 4) rfl ?_); refine box_event ?hg (N := 4) ?hd (cs := #[.string (⟨#[]⟩ : ByteArray), .string (⟨#[]⟩ : ByteArray), .int .i64 0, .bool false, .string (⟨#[]⟩ : ByteArray), .slice none 0 0]) (t := 43) ?hr ?_; (case hd => rfl); (case hg => rfl); (case hr => (go_simp; done)); intro gb406 hg w3 hbox hb; replace HO0 := Aside0.mk (Kd.V_below (Kd.V_elderB HO0.out gb406 (Nat.le_of_eq hg.symm)) hb); have BK406 := Aside0.mk hbox; have GW406 := Aside0.mk ((by rw [hg]; exact (below_size HB.out) : w.heap.size ≤ gb406)); have GE406 := Aside0.mk ((by rw [hg]; exact (below_size HB.out) : w.heap.size ≤ gb406)); replace HB := Aside0.mk (below_step HB.out hb); clear hb hbox hg))
 go_loopg [6] k (fun kq v6 w' => ∃ (x6_1 : Int) (x407000_1 : ByteArray) (x407001_1 : ByteArray) (x407002_1 : Int) (x407003_1 : Bool) (x407004_1 : ByteArray), v6 = .int .i64 x6_1 ∧ Aside0 (wicketref11_Find.l0 kq l0 a1 x6_1 = some (r1, r2, r3, r4, r5, r6, r7)) ∧ Aside0 (kq ≤ k) ∧ Aside0 (Kd.V k43 43 w' w.heap.size (fun k_ => (P0_ k_ ∨ w.heap.size ≤ k_) ∧ k_ ≠ gb406) (.slice A0 l0.length c0) l0) ∧ Aside0 (w'.heap[gb406]? = some (.cells #[.string x407000_1, .string x407001_1, .int .i64 x407002_1, .bool x407003_1, .string x407004_1, (.slice none 0 0)] 43 (0, 0))) ∧ Aside0 (Below w.heap.size w w'))
 case atStart => exact ⟨(0), ((⟨#[]⟩ : ByteArray)), ((⟨#[]⟩ : ByteArray)), (0), (false), ((⟨#[]⟩ : ByteArray)), rfl, H', ⟨Nat.le_refl _⟩, ⟨HO0.out⟩, ⟨BK406.out⟩, ⟨HB.out⟩⟩
 case round =>
  clear H'
  obtain ⟨x6_1, x407000_1, x407001_1, x407002_1, x407003_1, x407004_1, rfl, HA, HK1, HO_0, BK406, HB⟩ := hrel
  cases gk with
  | zero => exact absurd HA.out (by simp [wicketref11_Find.l0])
  | succ k1 =>
   have H := HA.out
   clear HA
   simp only [wicketref11_Find.l0] at H
   by_cases c4 : x6_1 < (l0.length : Int)
   · rw [if_pos c4] at H
     have c4b0 : decide (x6_1 < (l0.length : Int)) = true := decide_eq_true c4
     clear c4
     by_cases c5 : 0 ≤ x6_1
     · rw [if_pos c5] at H
       have c5b0 : decide (0 ≤ x6_1) = true := decide_eq_true c5
       clear c5
       by_cases c6 : ((rd_T43 l0 x6_1).f0).toList = a1.toList
       · rw [if_pos c6] at H
         have c6b0 : (((rd_T43 l0 x6_1).f0).toList == a1.toList) = true := beq_iff_eq.mpr c6
         have c6b1 : (((rd_T43 l0 x6_1).f0).toList != a1.toList) = false := bne_eq_false_iff_eq.mpr c6
         clear c6
         simp only [Option.some.injEq, Prod.mk.injEq] at H
         obtain ⟨rfl, rfl, rfl, rfl, rfl, rfl, rfl⟩ := H
         have p407 : 0 ≤ (x6_1 : Int) := of_decide_eq_true (by assumption)
         have q407 : x6_1 < (l0.length : Int) := of_decide_eq_true (by assumption)
         obtain ⟨ad407, A407_5, c407_5, e407, hx407_0, hx407_1, hx407_2, hx407_3, hx407_4, hx407_5, hl407_5, hi407_5⟩ := at_T43 (Kd.V_reads' HO_0.out).2.2 x6_1 p407 q407
         cases e407
         obtain ⟨ce407, hce407, hMe407, hcc407⟩ := Kd.V_get HO_0.out z43 x6_1 p407 (by exact q407)
         obtain ⟨ua407_5, uc407_5, rfl, ul407_5, ge407_5⟩ := k43_openF hMe407
         have hv407_5 := hcc407 5 _ rfl
         rw [add_field _ _ 5 (by omega)] at hv407_5
         replace hv407_5 := Option.some.inj (hv407_5.symm.trans hx407_5)
         injection hv407_5 with hva_ hvn_ hvc_
         rw [hva_] at ge407_5
         rw [hvc_] at ul407_5
         have HL407_5 := Aside0.mk (show Kd.V Kd.string 9 _ w.heap.size _ _ ((rd_T43 l0 x6_1).f5) from Kd.V_mk ul407_5 ge407_5)
         clear hva_ hvn_ hvc_ ge407_5 ul407_5 hcc407 hce407
         have HR407_5 := Aside0.mk hi407_5
         have HC407_5 := Aside0.mk hl407_5
         clear hi407_5 hl407_5
         replace p407 := eq_true p407
         replace q407 := eq_true q407
         have p408 : 0 ≤ (x6_1 : Int) := of_decide_eq_true (by assumption)
         have q408 : x6_1 < (l0.length : Int) := of_decide_eq_true (by assumption)
         obtain ⟨ad408, A408_5, c408_5, e408, hx408_0, hx408_1, hx408_2, hx408_3, hx408_4, hx408_5, hl408_5, hi408_5⟩ := at_T43 (Kd.V_reads' HO_0.out).2.2 x6_1 p408 q408
         obtain rfl : ad407 = ad408 := (by injection e408)
         obtain ⟨ce408, hce408, hMe408, hcc408⟩ := Kd.V_get HO_0.out z43 x6_1 p408 (by exact q408)
         obtain ⟨ua408_5, uc408_5, rfl, ul408_5, ge408_5⟩ := k43_openF hMe408
         have hv408_5 := hcc408 5 _ rfl
         rw [add_field _ _ 5 (by omega)] at hv408_5
         replace hv408_5 := Option.some.inj (hv408_5.symm.trans hx408_5)
         injection hv408_5 with hva_ hvn_ hvc_
         rw [hva_] at ge408_5
         rw [hvc_] at ul408_5
         have HL408_5 := Aside0.mk (show Kd.V Kd.string 9 _ w.heap.size _ _ ((rd_T43 l0 x6_1).f5) from Kd.V_mk ul408_5 ge408_5)
         clear hva_ hvn_ hvc_ ge408_5 ul408_5 hcc408 hce408
         have HR408_5 := Aside0.mk hi408_5
         have HC408_5 := Aside0.mk hl408_5
         clear hi408_5 hl408_5
         replace p408 := eq_true p408
         replace q408 := eq_true q408
         have ea_ := Option.some.inj (hx407_5.symm.trans hx408_5)
         injection ea_ with ea_ en_ ec_
         subst ea_
         subst ec_
         clear en_
         obtain ⟨hcz7_0, hcz7_1, hcz7_2, hcz7_3, hcz7_4, hcz7_5, hfz7_0, hfz7_1, hfz7_2, hfz7_3, hfz7_4, hfz7_5⟩ := cz6_ BK406.out
         go_wp2
         refine bodyPost_ret (results_ct rfl _ _ gb406 43 #[.string ((rd_T43 l0 x6_1).f0), .string ((rd_T43 l0 x6_1).f1), .int .i64 ((rd_T43 l0 x6_1).f2), .bool ((rd_T43 l0 x6_1).f3), .string ((rd_T43 l0 x6_1).f4), .slice A407_5 ((rd_T43 l0 x6_1).f5).length c407_5] (0, 0) _ rfl (put6_ BK406.out _ _ _ _ _ _) Tryz.underlying43 rfl (by kernel_rfl)) rfl ?_
         exact ⟨_, rfl, by (with_reducible repeat (first | apply Kd.V_alloc  | apply Kd.V_drewN  | apply Kd.V_drew)); exact Kd.V_mono (V_far6 (Kd.V_mono HL408_5.out (fun k_ hk => (⟨hk, hk.2⟩ : _ ∧ k_ ≠ gb406))) (fun _ hk => hk.2)) (fun _ hk => hk.1.1), by (repeat (with_reducible first | exact HB.out | refine below_set ?_ GE406.out))⟩
       · rw [if_neg c6] at H
         have c6b0 : (((rd_T43 l0 x6_1).f0).toList == a1.toList) = false := beq_eq_false_iff_ne.mpr c6
         have c6b1 : (((rd_T43 l0 x6_1).f0).toList != a1.toList) = true := bne_iff_ne.mpr c6
         have H' := Aside0.mk H
         clear H
         have p407 : 0 ≤ (x6_1 : Int) := of_decide_eq_true (by assumption)
         have q407 : x6_1 < (l0.length : Int) := of_decide_eq_true (by assumption)
         obtain ⟨ad407, A407_5, c407_5, e407, hx407_0, hx407_1, hx407_2, hx407_3, hx407_4, hx407_5, hl407_5, hi407_5⟩ := at_T43 (Kd.V_reads' HO_0.out).2.2 x6_1 p407 q407
         cases e407
         obtain ⟨ce407, hce407, hMe407, hcc407⟩ := Kd.V_get HO_0.out z43 x6_1 p407 (by exact q407)
         obtain ⟨ua407_5, uc407_5, rfl, ul407_5, ge407_5⟩ := k43_openF hMe407
         have hv407_5 := hcc407 5 _ rfl
         rw [add_field _ _ 5 (by omega)] at hv407_5
         replace hv407_5 := Option.some.inj (hv407_5.symm.trans hx407_5)
         injection hv407_5 with hva_ hvn_ hvc_
         rw [hva_] at ge407_5
         rw [hvc_] at ul407_5
         have HL407_5 := Aside0.mk (show Kd.V Kd.string 9 _ w.heap.size _ _ ((rd_T43 l0 x6_1).f5) from Kd.V_mk ul407_5 ge407_5)
         clear hva_ hvn_ hvc_ ge407_5 ul407_5 hcc407 hce407
         have HR407_5 := Aside0.mk hi407_5
         have HC407_5 := Aside0.mk hl407_5
         clear hi407_5 hl407_5
         replace p407 := eq_true p407
         replace q407 := eq_true q407
         go_wp2
         go_roundg k1
         case measure => have := HK1.out; omega
         case rel => exact ⟨(wrap64 (x6_1 + 1)), (x407000_1), (x407001_1), (x407002_1), (x407003_1), (x407004_1), rfl, H', ⟨by have := HK1.out; omega⟩, ⟨HO_0.out⟩, ⟨BK406.out⟩, ⟨HB.out⟩⟩
     · rw [if_neg c5] at H
       exact absurd H (by simp)
   · rw [if_neg c4] at H
     have c4b0 : decide (x6_1 < (l0.length : Int)) = false := decide_eq_false c4
     clear c4
     simp only [Option.some.injEq, Prod.mk.injEq] at H
     obtain ⟨rfl, rfl, rfl, rfl, rfl, rfl, rfl⟩ := H
     obtain ⟨hcz8_0, hcz8_1, hcz8_2, hcz8_3, hcz8_4, hcz8_5, hfz8_0, hfz8_1, hfz8_2, hfz8_3, hfz8_4, hfz8_5⟩ := cz6_ BK406.out
     go_wp2
     refine bodyPost_ret (results_ct rfl _ _ gb406 43 #[.string (⟨#[]⟩ : ByteArray), .string (⟨#[]⟩ : ByteArray), .int .i64 0, .bool false, .string (⟨#[]⟩ : ByteArray), .slice none 0 0] (0, 0) _ rfl (put6_ BK406.out _ _ _ _ _ _) Tryz.underlying43 rfl (by kernel_rfl)) rfl ?_
     exact ⟨_, rfl, Kd.V_nil _ _ _ _ _, by (repeat (with_reducible first | exact HB.out | refine below_set ?_ GE406.out))⟩
end Go.Proofs.YtmimipgmhgalaaaGreatDoor.PAll
end
section
namespace Go.Proofs.YtmimipgmhgalaaaGreatDoor.Pure
open Go.RowKit Go.Proofs.YtmimipgmhgalaaaGreatDoorW.PrintWords Go.Proofs.YtmimipgmhgalaaaGreatDoor.Plain Go.Proofs.YtmimipgmhgalaaaGreatDoor.PAll
set_option linter.unusedSimpArgs false
set_option linter.unusedVariables false
abbrev CC := S40
abbrev CR := S43
def toR (x : CC) : CR := ⟨x.f0, x.f1, x.f2, x.f3, x.f4, x.f5⟩
def SmallC (l : List CC) : Prop := l.length ≤ 1599289640400 ∧ ∀ x ∈ l, x.f5.length ≤ 4000000000000
theorem ours_q (i s : ByteArray) (gr : Int) (pg : Bool) (u : ByteArray) (sc : List ByteArray) (h : sc.length ≤ 4000000000000) : wicketlaw11_ours.f i s gr pg u sc = some (i, s, gr, pg, u, sc) := by
  unfold wicketlaw11_ours.f
  rw [Option.bind_some, if_pos (by simp; omega)]
  rfl
theorem theirs_q (i s : ByteArray) (gr : Int) (pg : Bool) (u : ByteArray) (sc : List ByteArray) (h : sc.length ≤ 4000000000000) : wicketlaw11_theirs.f i s gr pg u sc = some (i, s, gr, pg, u, sc) := by
  unfold wicketlaw11_theirs.f
  rw [Option.bind_some, if_pos (by simp; omega)]
  rfl
theorem rdC (l : List CC) (i : Nat) (h : i < l.length) : rd_T40 l (i : Int) = l[i] := by
  unfold rd_T40; rw [Int.toNat_natCast, List.getD_eq_getElem?_getD, List.getElem?_eq_getElem h]; rfl
theorem rdR (l : List CR) (i : Nat) (h : i < l.length) : rd_T43 l (i : Int) = l[i] := by
  unfold rd_T43; rw [Int.toNat_natCast, List.getD_eq_getElem?_getD, List.getElem?_eq_getElem h]; rfl
theorem take_snoc {α : Type} (l : List α) (i : Nat) (h : i < l.length) : l.take i ++ [l[i]] = l.take (i + 1) := by rw [List.take_add_one, List.getElem?_eq_getElem h]; rfl
theorem copied_ev (l : List CC) (hl : SmallC l) : Ev (fun k => wicketlaw11_copied.f k l) l := by
  have h : ∀ (m i : Nat), i + m = l.length → Ev (fun k => wicketlaw11_copied.l0 k l (l.take i) (i : Int)) l := by
    intro m
    induction m with
    | zero =>
      intro i hi
      refine Ev.step (f := fun _ => some l) (fun k => ?_) (Ev.now _)
      simp only [wicketlaw11_copied.l0]; rw [if_neg (by omega), List.take_of_length_le (by omega)]
    | succ m ih =>
      intro i hi
      have hlt : i < l.length := by omega
      have h1 := hl.1
      refine Ev.step (f := fun k => wicketlaw11_copied.l0 k l (l.take (i + 1)) ((i + 1 : Nat) : Int)) (fun k => ?_) (ih (i + 1) (by omega))
      simp only [wicketlaw11_copied.l0]
      rw [if_pos (by omega), if_pos (by omega), rdC _ _ hlt, ours_q _ _ _ _ _ _ (hl.2 _ (List.getElem_mem hlt)), Option.bind_some, theirs_q _ _ _ _ _ _ (hl.2 _ (List.getElem_mem hlt)), Option.bind_some, if_pos (by rw [List.length_take]; omega), w64 (by omega) (by omega), ← take_snoc l i hlt]
      rfl
  exact h l.length 0 (by omega)
theorem all_ev (l : List CC) (hl : SmallC l) : Ev (fun k => wicketlaw11_all.f k l) (l.map toR) := by
  have h : ∀ (m i : Nat), i + m = l.length → Ev (fun k => wicketlaw11_all.l0 k l ((l.take i).map toR) (i : Int)) (l.map toR) := by
    intro m
    induction m with
    | zero =>
      intro i hi
      refine Ev.step (f := fun _ => some (l.map toR)) (fun k => ?_) (Ev.now _)
      simp only [wicketlaw11_all.l0]; rw [if_neg (by omega), List.take_of_length_le (by omega)]
    | succ m ih =>
      intro i hi
      have hlt : i < l.length := by omega
      have h1 := hl.1
      refine Ev.step (f := fun k => wicketlaw11_all.l0 k l ((l.take (i + 1)).map toR) ((i + 1 : Nat) : Int)) (fun k => ?_) (ih (i + 1) (by omega))
      simp only [wicketlaw11_all.l0]
      rw [if_pos (by omega), if_pos (by omega), rdC _ _ hlt, ours_q _ _ _ _ _ _ (hl.2 _ (List.getElem_mem hlt)), Option.bind_some, if_pos (by rw [List.length_map, List.length_take]; omega), w64 (by omega) (by omega), ← take_snoc l i hlt, List.map_append]
      rfl
  exact h l.length 0 (by omega)
theorem same_ev (i s : ByteArray) (gr : Int) (pg : Bool) (u : ByteArray) (sc : List ByteArray) (hs : sc.length ≤ 4000000000000) : Ev (fun k => wicketlaw11_same.f k i s gr pg u sc i s gr pg u sc) true := by
  have h : ∀ (m j : Nat), j + m = sc.length → Ev (fun k => wicketlaw11_same.l0 k (j : Int) i s gr pg u sc i s gr pg u sc) true := by
    intro m
    induction m with
    | zero =>
      intro j hj
      refine Ev.step (f := fun _ => some true) (fun k => ?_) (Ev.now _)
      simp only [wicketlaw11_same.l0]; rw [if_neg (by omega)]
    | succ m ih =>
      intro j hj
      have hlt : j < sc.length := by omega
      refine Ev.step (f := fun k => wicketlaw11_same.l0 k ((j + 1 : Nat) : Int) i s gr pg u sc i s gr pg u sc) (fun k => ?_) (ih (j + 1) (by omega))
      simp only [wicketlaw11_same.l0]
      rw [if_pos (by omega), if_pos (by omega), if_pos (by omega), if_true, w64 (by omega) (by omega)]
      rfl
  unfold wicketlaw11_same.f
  simp only [if_true, bne_self_eq_false, if_false, Bool.false_eq_true]
  refine Ev.step (f := fun k => wicketlaw11_same.l0 k (0 : Int) i s gr pg u sc i s gr pg u sc) (fun k => ?_) (h sc.length 0 (by omega))
  simp only [wicketlaw11_same.j0, Bool.false_eq_true, if_false]
theorem list_ev (l : List CC) (hl : SmallC l) : Ev (fun k => wicketlaw11_list.f k l (l.map toR)) true := by
  have h : ∀ (m i : Nat), i + m = l.length → Ev (fun k => wicketlaw11_list.l0 k l (l.map toR) (i : Int)) true := by
    intro m
    induction m with
    | zero =>
      intro i hi
      refine Ev.step (f := fun _ => some true) (fun k => ?_) (Ev.now _)
      simp only [wicketlaw11_list.l0]; rw [if_neg (by omega)]
    | succ m ih =>
      intro i hi
      have hlt : i < l.length := by omega
      have h1 := hl.1
      refine Ev.step (f := fun k => (wicketlaw11_same.f k (l[i]).f0 (l[i]).f1 (l[i]).f2 (l[i]).f3 (l[i]).f4 (l[i]).f5 (l[i]).f0 (l[i]).f1 (l[i]).f2 (l[i]).f3 (l[i]).f4 (l[i]).f5).bind fun t => if t = true then wicketlaw11_list.l0 k l (l.map toR) ((i + 1 : Nat) : Int) else some false) (fun k => ?_) ?_
      · simp only [wicketlaw11_list.l0]
        rw [if_pos (by omega), if_pos (by omega), if_pos (by rw [List.length_map]; omega), rdC _ _ hlt, rdR _ _ (by rw [List.length_map]; omega), List.getElem_map, w64 (by omega) (by omega)]
        rfl
      · exact Ev.bind (same_ev _ _ _ _ _ _ (hl.2 _ (List.getElem_mem hlt))) (Ev.pos rfl (ih (i + 1) (by omega)))
  unfold wicketlaw11_list.f
  exact Ev.pos (by rw [List.length_map]) (h l.length 0 (by omega))
def zeroC : CC := ⟨⟨#[]⟩, ⟨#[]⟩, 0, false, ⟨#[]⟩, []⟩
def foundC (a : ByteArray) : List CC → CC × Bool
  | [] => (zeroC, false)
  | x :: r => if x.f0.toList = a.toList then (x, true) else foundC a r
theorem rfind_ev (l : List CC) (hl : SmallC l) (a : ByteArray) : Ev (fun k => wicketref11_Find.f k (l.map toR) a) ((foundC a l).1.f0, (foundC a l).1.f1, (foundC a l).1.f2, (foundC a l).1.f3, (foundC a l).1.f4, (foundC a l).1.f5, (foundC a l).2) := by
  have h : ∀ (m i : Nat), i + m = l.length → Ev (fun k => wicketref11_Find.l0 k (l.map toR) a (i : Int)) ((foundC a (l.drop i)).1.f0, (foundC a (l.drop i)).1.f1, (foundC a (l.drop i)).1.f2, (foundC a (l.drop i)).1.f3, (foundC a (l.drop i)).1.f4, (foundC a (l.drop i)).1.f5, (foundC a (l.drop i)).2) := by
    intro m
    induction m with
    | zero =>
      intro i hi
      refine Ev.step (f := fun _ => some _) (fun k => ?_) (Ev.now _)
      simp only [wicketref11_Find.l0]; rw [if_neg (by rw [List.length_map]; omega), List.drop_eq_nil_of_le (by omega)]; rfl
    | succ m ih =>
      intro i hi
      have hlt : i < l.length := by omega
      have h1 := hl.1
      have e : l.drop i = l[i] :: l.drop (i + 1) := List.drop_eq_getElem_cons hlt
      have hr : rd_T43 (l.map toR) (i : Int) = toR l[i] := by rw [rdR _ _ (by rw [List.length_map]; omega), List.getElem_map]
      by_cases hx : (l[i]).f0.toList = a.toList
      · refine Ev.step (f := fun _ => some _) (fun k => ?_) (Ev.now _)
        simp only [wicketref11_Find.l0]
        rw [if_pos (by rw [List.length_map]; omega), if_pos (by omega), hr, if_pos (show (toR l[i]).f0.toList = a.toList from hx), e]
        simp only [foundC, if_pos hx]
        rfl
      · have hn := ih (i + 1) (by omega)
        refine Ev.step (f := fun k => wicketref11_Find.l0 k (l.map toR) a ((i + 1 : Nat) : Int)) (fun k => ?_) ?_
        · simp only [wicketref11_Find.l0]
          rw [if_pos (by rw [List.length_map]; omega), if_pos (by omega), hr, if_neg (show ¬ (toR l[i]).f0.toList = a.toList from hx), w64 (by omega) (by omega)]
          rfl
        · rw [e]
          simp only [foundC, if_neg hx]
          exact hn
  exact h l.length 0 (by omega)
def weightC (y : CC) : Nat := ((y.f0.size + 1) + (y.f1.size + 1) + 1 + 1 + (y.f4.size + 1) + ((y.f5.map fun y => (y.size + 1)).sum + 1) + 1)
theorem sum_names (l : List ByteArray) : l.length ≤ (l.map fun y => (y.size + 1)).sum := by
  induction l with
  | nil => simp
  | cons x r ih => simp only [List.map_cons, List.sum_cons, List.length_cons]; omega
theorem weight_ge (x : CC) : x.f5.length + 1 ≤ weightC x := by
  have := sum_names x.f5
  unfold weightC
  omega
theorem weight_mem (l : List CC) : l.length ≤ (l.map weightC).sum ∧ ∀ x ∈ l, weightC x ≤ (l.map weightC).sum := by
  induction l with
  | nil => simp
  | cons x r ih =>
    simp only [List.map_cons, List.sum_cons, List.length_cons]
    refine ⟨by have := ih.1; have := weight_ge x; omega, fun y hy => ?_⟩
    rcases List.mem_cons.1 hy with rfl | hy
    · omega
    · have := ih.2 y hy; omega
theorem smallC_of (l : List CC) (n : Nat) (h : (l.map weightC).sum ≤ n) (hn : n ≤ 1048576) : SmallC l := by
  have h1 := weight_mem l
  refine ⟨by have := h1.1; omega, fun x hx => ?_⟩
  have h2 := h1.2 x hx
  have h3 := weight_ge x
  omega
end Go.Proofs.YtmimipgmhgalaaaGreatDoor.Pure
end
section
namespace Go.Proofs.YtmimipgmhgalaaaGreatDoor.Spec
open Go.Proofs.YtmimipgmhgalaaaGreatDoor.PAll Go.Proofs.YtmimipgmhgalaaaGreatDoor.Pure
def toT (x : S40) : ClT := ⟨x.f0, x.f1, x.f2, x.f3, x.f4, x.f5⟩
def badC (l : List S40) : Bool := l.any fun x => !checkL (toT x)
def linesB (l : List S40) : List UInt8 := l.flatMap fun x => lineB (toT x)
def idsC (l : List S40) : List ByteArray := l.map (·.f0)
def printC (l : List S40) : ByteArray × Int :=
  if badC l = true then (⟨#[]⟩, 111) else if ¬ (idsC l).Nodup then (⟨#[]⟩, 8) else if l.length > 256 then (⟨#[]⟩, 32) else if (linesB l).length > 65536 then (⟨#[]⟩, 1) else (bs (linesB l), 0)
theorem small_ofB {c : ClT} (h : smallB c = true) : Small c := by
  unfold smallB at h
  obtain ⟨h1, h2, h3, h4, h5⟩ := of_decide_eq_true h
  exact ⟨h1, h2, h3, h4, h5⟩
theorem linesB_take (l : List S40) (k : Nat) (h : k < l.length) : linesB (l.take (k + 1)) = linesB (l.take k) ++ lineB (toT l[k]) := by
  unfold linesB
  rw [List.take_succ_eq_append_getElem h, List.flatMap_append]
  simp
theorem linesB_len (l : List S40) (h : ∀ x ∈ l, checkL (toT x) = true) : (linesB l).length ≤ 3001 * l.length := by
  induction l with
  | nil => simp [linesB]
  | cons x r ih =>
    have h1 := lineB_len (toT x) (fits_of _ (h x (by simp)))
    have h2 := ih fun y hy => h y (by simp [hy])
    unfold linesB at h2 ⊢
    simp only [List.flatMap_cons, List.length_append, List.length_cons]
    omega
end Go.Proofs.YtmimipgmhgalaaaGreatDoor.Spec
namespace Go.Proofs.YtmimipgmhgalaaaGreatDoor.PAll
open Go.RowKit Go.Proofs.YtmimipgmhgalaaaGreatDoorW.PrintWords Go.Proofs.YtmimipgmhgalaaaGreatDoor.Plain Go.Proofs.YtmimipgmhgalaaaGreatDoor.Spec Go.Proofs.YtmimipgmhgalaaaGreatDoor.Pure
set_option linter.unusedVariables false
set_option linter.unusedSimpArgs false
def client_Print.f (l0 : List S40) : Option (ByteArray × Int) := if (l0.all fun x => smallB (toT x)) = true then some (printC l0) else none
def putMap (W : World) (mb : Nat) (o : Obj) : World := { W with heap := W.heap.setIfInBounds mb o }
theorem putMap_at {W : World} {mb : Nat} {o o' : Obj} (h : W.heap[mb]? = some o) : (putMap W mb o').heap[mb]? = some o' := (MapKept.heap_set h).1
theorem putMap_far {W : World} {mb k : Nat} {o o' : Obj} (h : W.heap[mb]? = some o) (hk : k ≠ mb) : (putMap W mb o').heap[k]? = W.heap[k]? := (MapKept.heap_set h).2 k hk
theorem below_putMap {w W : World} {mb : Nat} {o' : Obj} (hb : Below w.heap.size w W) (hm : w.heap.size ≤ mb) : Below w.heap.size w (putMap W mb o') := by
  refine ⟨hb.os, hb.tape, hb.output, by have := hb.size; simpa [putMap] using this, fun k hk => ?_⟩
  refine Eq.trans ?_ (hb.block k hk)
  show (W.heap.setIfInBounds mb o')[k]? = _
  rw [Array.getElem?_setIfInBounds_ne (by omega)]
def entC (x : S40) (i : Nat) : MapEntry := ⟨.string x.f0, .int .i64 1, i⟩
def seenE : List S40 → Nat → List MapEntry
  | [], _ => []
  | x :: r, i => entC x i :: seenE r (i + 1)
theorem seenE_snoc (x : S40) : ∀ (l : List S40) (i : Nat), seenE (l ++ [x]) i = seenE l i ++ [entC x (i + l.length)]
  | [], i => rfl
  | y :: r, i => by
    simp only [List.cons_append, seenE, List.length_cons]
    rw [seenE_snoc x r (i + 1), show i + 1 + r.length = i + (r.length + 1) by omega]
theorem seenE_keys : ∀ (l : List S40) (i : Nat) (e : MapEntry), e ∈ seenE l i → ∃ x ∈ l, e.key = .string x.f0 ∧ e.val = .int .i64 1
  | [], i, e, h => by cases h
  | x :: r, i, e, h => by
    rcases List.mem_cons.1 h with rfl | h
    · exact ⟨x, by simp, rfl, rfl⟩
    · obtain ⟨y, hy, h2⟩ := seenE_keys r (i + 1) e h
      exact ⟨y, by simp [hy], h2⟩
theorem seenE_mem : ∀ (l : List S40) (i : Nat) (x : S40), x ∈ l → ∃ e ∈ seenE l i, e.key = .string x.f0
  | y :: r, i, x, h => by
    rcases List.mem_cons.1 h with rfl | h
    · exact ⟨_, List.mem_cons_self, rfl⟩
    · obtain ⟨e, he, h2⟩ := seenE_mem r (i + 1) x h
      exact ⟨e, List.mem_cons_of_mem _ he, h2⟩
theorem seen_find (l : List S40) (s : ByteArray) : (s ∉ idsC l ∧ Instr.findNow .string (.string s) (seenE l 0) 0 = some none) ∨ (s ∈ idsC l ∧ ∃ j e, Instr.findNow .string (.string s) (seenE l 0) 0 = some (some (j, .int .i64 1)) ∧ (seenE l 0)[j]? = some e ∧ e.key = .string s) := by
  have hk : ∀ x ∈ seenE l 0, MapKept.IsKey .string x.key := fun e he => by
    obtain ⟨x, _, h, _⟩ := seenE_keys l 0 e he
    rw [h]; trivial
  rcases MapKept.findNow_spec (d := .string) (k := .string s) trivial (seenE l 0) 0 hk with ⟨h1, h2⟩ | ⟨j, e, h1, h2, h3⟩
  · left
    refine ⟨fun hs => ?_, h1⟩
    obtain ⟨x, hx, rfl⟩ := List.mem_map.1 hs
    obtain ⟨e, he, h4⟩ := seenE_mem l 0 x hx
    exact h2 e he h4
  · right
    obtain ⟨x, hx, h4, h5⟩ := seenE_keys l 0 e (List.mem_of_getElem? h2)
    rw [h3] at h4
    refine ⟨?_, j, e, by rw [h1, h5, Nat.zero_add], h2, h3⟩
    injection h4 with h4
    exact List.mem_map.2 ⟨x, hx, h4.symm⟩
theorem zInt (w : World) : (zeroValue 3).run Tryz.prog w = .ok (.int .i64 0) w := by kernel_rfl
theorem look_map {W : World} {mb n : Nat} {es : Array MapEntry} (hb : W.heap[mb]? = some (.map es n)) (s : ByteArray) (i : Nat) (v : Value) (h : Instr.findNow .string (.string s) es.toList 0 = some (some (i, v))) :
    (Instr.lookup 85 (.map (some mb)) (.string s) false).run Tryz.prog W = .ok v W := by
  have hk : ∀ e, (Instr.checkKey e 10000 9 (.string s)).run Tryz.prog W = .ok () W := fun e => MapKept.run_checkKey Tryz.underlying9 (show MapKept.IsKey .string (.string s) from trivial) e 9999
  simp [Instr.lookup, run_underlying Tryz.underlying85, MapKept.run_getObj_map hb, hk, MapKept.run_findKey Tryz.underlying9 h, Result.andThen]
theorem look_zero {W : World} {mb n : Nat} {es : Array MapEntry} (hb : W.heap[mb]? = some (.map es n)) (s : ByteArray) (h : Instr.findNow .string (.string s) es.toList 0 = some none) :
    (Instr.lookup 85 (.map (some mb)) (.string s) false).run Tryz.prog W = .ok (.int .i64 0) W := by
  have hk : ∀ e, (Instr.checkKey e 10000 9 (.string s)).run Tryz.prog W = .ok () W := fun e => MapKept.run_checkKey Tryz.underlying9 (show MapKept.IsKey .string (.string s) from trivial) e 9999
  simp [Instr.lookup, run_underlying Tryz.underlying85, MapKept.run_getObj_map hb, hk, MapKept.run_findKey Tryz.underlying9 h, Result.andThen, zInt]
theorem upd_new {W : World} {mb n : Nat} {es : Array MapEntry} (hb : W.heap[mb]? = some (.map es n)) (s : ByteArray) (v : Value) (h : Instr.findNow .string (.string s) es.toList 0 = some none) :
    (Instr.mapUpdate 85 (.map (some mb)) (.string s) v).run Tryz.prog W = .ok () (putMap W mb (.map (es.push ⟨.string s, v, n⟩) (n + 1))) := by
  have hk : ∀ e, (Instr.checkKey e 10000 9 (.string s)).run Tryz.prog W = .ok () W := fun e => MapKept.run_checkKey Tryz.underlying9 (show MapKept.IsKey .string (.string s) from trivial) e 9999
  simp [Instr.mapUpdate, run_underlying Tryz.underlying85, MapKept.run_getObj_map hb, hk, MapKept.run_findKey Tryz.underlying9 h, MapKept.run_setObj_map _ hb, Result.andThen, putMap]
theorem upd_old {W : World} {mb n : Nat} {es : Array MapEntry} (hb : W.heap[mb]? = some (.map es n)) (s : ByteArray) (v v0 : Value) (i : Nat) (e : MapEntry) (he : es[i]? = some e) (hes : e.key = .string s) (h : Instr.findNow .string (.string s) es.toList 0 = some (some (i, v0))) :
    (Instr.mapUpdate 85 (.map (some mb)) (.string s) v).run Tryz.prog W = .ok () (putMap W mb (.map (es.modify i fun e => { e with key := .string s, val := v }) n)) := by
  have hk : ∀ e, (Instr.checkKey e 10000 9 (.string s)).run Tryz.prog W = .ok () W := fun e => MapKept.run_checkKey Tryz.underlying9 (show MapKept.IsKey .string (.string s) from trivial) e 9999
  have hst : ∀ W, (Instr.keyThatStays (.string s) (.string s)).run Tryz.prog W = .ok (.string s) W := fun W => MapKept.run_keyThatStays (d := .string) (k := .string s) trivial
  simp [Instr.mapUpdate, run_underlying Tryz.underlying85, MapKept.run_getObj_map hb, hk, MapKept.run_findKey Tryz.underlying9 h, he, hes, hst, MapKept.run_setObj_map _ hb, Result.andThen, putMap]
theorem find_ge (s : ByteArray) : ∀ (l : List MapEntry) (i a : Nat) (v : Value), Instr.findNow .string (.string s) l i = some (some (a, v)) → i ≤ a
  | [], i, a, v, h => by cases h
  | e :: es, i, a, v, h => by
    unfold Instr.findNow at h
    split at h
    · simp only [Option.some.injEq, Prod.mk.injEq] at h; omega
    · have := find_ge s es (i + 1) a v h; omega
    · cases h
theorem find_modify (s : ByteArray) (v' : Value) : ∀ (l : List MapEntry) (i j : Nat) (v : Value), Instr.findNow .string (.string s) l i = some (some (i + j, v)) →
    Instr.findNow .string (.string s) (l.modify j fun e => { e with key := .string s, val := v' }) i = some (some (i + j, v'))
  | [], i, j, v, h => by cases h
  | e :: es, i, j, v, h => by
    have hself : Instr.sameNow .string (.string s) (.string s) = some true := by
      obtain ⟨r, hr, hiff⟩ := MapKept.sameNow_of_keys (d := .string) (a := .string s) (b := .string s) trivial trivial
      rw [hr, hiff.2 rfl]
    unfold Instr.findNow at h
    split at h
    · simp only [Option.some.injEq, Prod.mk.injEq] at h
      obtain rfl : j = 0 := by omega
      simp [List.modify, Instr.findNow, hself]
    · rename_i hq
      have hge := find_ge s es (i + 1) _ v h
      obtain ⟨j', rfl⟩ : ∃ j', j = j' + 1 := ⟨j - 1, by omega⟩
      have ih := find_modify s v' es (i + 1) j' v (by rw [h]; congr 3; omega)
      rw [List.modify_succ_cons]
      unfold Instr.findNow
      rw [hq]
      simp only
      rw [ih]
      congr 3
      omega
    · cases h
set_option maxRecDepth 100000 in
set_option maxHeartbeats 4000000 in
theorem client_Print.calls (A0 : Option Addr) (c0 : Nat) (l0 : List S40) (r1 : ByteArray) (r2 : Int) (w : World) (hr0 : Kd.C k40 w A0 l0.length l0) (hc0 : l0.length ≤ c0) (h : client_Print.f l0 = some (r1, r2)) :
    Calls Tryz.prog 16 #[.slice A0 l0.length c0] w fun e w' => e = .returned (.tuple #[.string r1, .int .i64 r2]) ∧ Below w.heap.size w w' := by
  unfold client_Print.f at h
  split at h
  · rename_i hsm
    have hP : printC l0 = (r1, r2) := Option.some.inj h
    obtain ⟨N, hN⟩ : ∃ N, l0.length = N := ⟨_, rfl⟩
    have hm := hr0.2.1
    rw [hN] at hr0 hm ⊢
    have KS := Lib.hid (List.all_eq_true.1 hsm)
    have KP := Lib.hid hP
    have KN := Lib.hid hN
    have HR := Lib.hid hr0
    clear h hP hsm hN hr0 hc0
    go_enter Tryz.func16, Tryz.ntmps16
    go_wp2_with (fail)
    go_loopw [14] (fun v14 wr => ∃ k : Nat, k ≤ N ∧ v14 = .int .i64 (k : Int) ∧ Hid (∀ x ∈ l0.take k, checkL (toT x) = true) ∧ Below w.heap.size w wr) (fun v14 _ => N - (intOf v14).toNat)
    case atStart => exact ⟨0, Nat.zero_le _, rfl, Lib.hid (by simp), Below.refl _ _⟩
    case round =>
      obtain ⟨k, hk, rfl, hC, hB⟩ := hrel
      by_cases hlt : k < N
      · have hkl : k < l0.length := by rw [KN.out]; exact hlt
        obtain ⟨ad, A5, c5, hA, h0, h1, h2, h3, h4, h5, hl5, hi5⟩ := at_T40 (Kd.C_below HR.out hB) (k : Int) (by omega) (by omega)
        subst hA
        have hp : rd_T40 l0 (k : Int) = l0[k] := by simp [rd_T40, hkl]
        rw [hp] at h0 h1 h2 h3 h4 h5 hl5 hi5
        simp only [Int.toNat_natCast] at h0 h1 h2 h3 h4 h5
        have htk := List.take_succ_eq_append_getElem hkl
        have hmem := List.getElem_mem hkl
        clear hp
        generalize hpk : l0[k] = p at *
        have HTK := Lib.hid htk
        have HM := Lib.hid hmem
        obtain ⟨kc, hkc⟩ := (check_ev (toT p) (small_ofB (KS.out p hmem))).rounds
        have HCk := Lib.hid (fun (V : World) (h : Kd.C Kd.string V A5 p.f5.length p.f5) => client_Check.calls kc p.f0 p.f1 p.f2 p.f3 p.f4 A5 c5 p.f5 (numC (checkL (toT p))) V h hl5 hkc)
        have HI := Lib.hid hi5
        have HBr := Lib.hid hB
        clear htk hmem hkc hi5 hB hpk
        go_wp2_with (fail)
        refine (HCk.out _ (Kd.C_alloc HI.out _)).mono ?_
        rintro e w1 ⟨rfl, hb1⟩
        have HB1 := Lib.hid (below_step (below_alloc HBr.out _) hb1)
        clear hb1
        cases hch : checkL (toT p) with
        | true =>
          rw [show numC true = 0 from rfl]
          go_wp2_with (fail)
          go_roundw
          case rel => exact ⟨k + 1, by omega, by go_num, Lib.hid (by rw [HTK.out]; intro x hx; rcases List.mem_append.1 hx with hx | hx; exact hC.out x hx; rw [List.mem_singleton.1 hx]; exact hch), HB1.out⟩
          case measure => simp [intOf]; omega
        | false =>
          rw [show numC false = 111 from rfl]
          go_wp2_with (fail)
          have hz : printC l0 = (⟨#[]⟩, 111) := if_pos (List.any_eq_true.2 ⟨p, HM.out, by rw [hch]; rfl⟩)
          have hq := KP.out
          rw [hz] at hq
          obtain ⟨rfl, rfl⟩ := Prod.mk.inj hq
          go_ret2
          exact ⟨rfl, HB1.out⟩
      · have hkn : k = N := by omega
        subst hkn
        have hall : ∀ x ∈ l0, checkL (toT x) = true := by
          have := hC.out
          rwa [List.take_of_length_le (by rw [KN.out]; exact Nat.le_refl _)] at this
        have hnb : ¬ badC l0 = true := by
          intro h
          obtain ⟨x, hx, h2⟩ := List.any_eq_true.1 h
          rw [hall x hx] at h2
          cases h2
        have hPP : printC l0 = if ¬ (idsC l0).Nodup then (⟨#[]⟩, 8) else if l0.length > 256 then (⟨#[]⟩, 32) else if (linesB l0).length > 65536 then (⟨#[]⟩, 1) else (bs (linesB l0), 0) := if_neg hnb
        have KA := Lib.hid hall
        have KPP := Lib.hid hPP
        have HBr := Lib.hid hB
        have hge : decide (k < k) = false := decide_eq_false hlt
        clear hC hall hnb hPP hB
        have hmk : (Instr.makeMap 85 none).run Tryz.prog wr = .ok (.map (some wr.heap.size)) (wr.alloc (.map #[] 0)) := run_makeMap ..
        go_wp2_with (fail)
        obtain ⟨mb, hmb⟩ : ∃ mb, mb = wr.heap.size := ⟨_, rfl⟩
        have hM0 : (wr.alloc (.map #[] 0)).heap[mb]? = some (.map (seenE (l0.take 0) 0).toArray 0) := by rw [hmb]; exact blk_new wr _
        have hB0 := below_alloc HBr.out (.map #[] 0)
        have HMB := Lib.hid (show w.heap.size ≤ mb by rw [hmb]; exact HBr.out.size)
        rw [← hmb]
        clear hmb hmk hge HBr
        go_loopw [25] (fun v25 ws => ∃ j : Nat, j ≤ k ∧ v25 = .int .i64 (j : Int) ∧ Hid ((idsC (l0.take j)).Nodup) ∧ ws.heap[mb]? = some (.map (seenE (l0.take j) 0).toArray j) ∧ Below w.heap.size w ws) (fun v25 _ => k - (intOf v25).toNat)
        case atStart => exact ⟨0, Nat.zero_le _, rfl, Lib.hid (by simp [idsC]), hM0, hB0⟩
        case round =>
          clear hM0 hB0
          obtain ⟨j, hj, rfl, hD, hMj, hB⟩ := hrel
          by_cases hjk : j < k
          · have hkl : j < l0.length := by rw [KN.out]; exact hjk
            obtain ⟨ad, A5, c5, hA, h0, h1, h2, h3, h4, h5, hl5, hi5⟩ := at_T40 (Kd.C_below HR.out hB) (j : Int) (by omega) (by omega)
            subst hA
            have hp : rd_T40 l0 (j : Int) = l0[j] := by simp [rd_T40, hkl]
            rw [hp] at h0 h1 h2 h3 h4 h5
            simp only [Int.toNat_natCast] at h0 h1 h2 h3 h4 h5
            have htk := List.take_succ_eq_append_getElem hkl
            have htd : l0 = l0.take j ++ l0[j] :: l0.drop (j + 1) := by rw [← List.drop_eq_getElem_cons hkl, List.take_append_drop]
            have hlen : (l0.take j).length = j := by rw [List.length_take]; omega
            clear hp hl5 hi5
            generalize hpk : l0[j] = p at *
            have HTK := Lib.hid htk
            have HTD := Lib.hid htd
            have HBr := Lib.hid hB
            have HLT := Lib.hid (blk_lt hMj)
            have hM1 := blk_alloc hMj (.cells #[.string p.f0, .string p.f1, .int .i64 p.f2, .bool p.f3, .string p.f4, .slice A5 p.f5.length c5] 40)
            have hb8 := blk_new wr (.cells #[.string p.f0, .string p.f1, .int .i64 p.f2, .bool p.f3, .string p.f4, .slice A5 p.f5.length c5] 40)
            have hne8 : wr.heap.size ≠ mb := by have := HLT.out; omega
            have HB1 := Lib.hid (below_alloc HBr.out (.cells #[.string p.f0, .string p.f1, .int .i64 p.f2, .bool p.f3, .string p.f4, .slice A5 p.f5.length c5] 40))
            clear htk htd hB hpk
            rcases seen_find (l0.take j) p.f0 with ⟨hno, hf⟩ | ⟨hin, i, e, hf, he, hes⟩
            · have hl1 := look_zero hM1 p.f0 (by simpa using hf)
              have hu1 := upd_new hM1 p.f0 (.int .i64 1) (by simpa using hf)
              have hO : Obj.map ((seenE (l0.take j) 0).toArray.push ⟨.string p.f0, .int .i64 1, j⟩) (j + 1) = .map (seenE (l0.take (j + 1)) 0).toArray (j + 1) := by
                rw [HTK.out, seenE_snoc, hlen, Nat.zero_add, List.push_toArray]
                rfl
              rw [hO] at hu1
              have hin2 : p.f0 ∈ idsC (l0.take (j + 1)) := by rw [HTK.out]; simp [idsC]
              rcases seen_find (l0.take (j + 1)) p.f0 with ⟨hno2, _⟩ | ⟨_, i2, _, hf2, _, _⟩
              · exact absurd hin2 hno2
              · have hMq := putMap_at (o' := .map (seenE (l0.take (j + 1)) 0).toArray (j + 1)) hM1
                have hl2 := look_map hMq p.f0 i2 (.int .i64 1) (by simpa using hf2)
                have hbq := (putMap_far (o' := .map (seenE (l0.take (j + 1)) 0).toArray (j + 1)) hM1 hne8).trans hb8
                have HD2 := Lib.hid (show (idsC (l0.take (j + 1))).Nodup by
                  rw [HTK.out]
                  unfold idsC at hno ⊢
                  rw [List.map_append, List.nodup_append]
                  refine ⟨hD.out, by simp, fun a ha b hb e => hno ?_⟩
                  rw [List.map_cons, List.map_nil, List.mem_singleton] at hb
                  rw [← hb, ← e]; exact ha)
                have HMq := Lib.hid hMq
                have HBq := Lib.hid (below_putMap (o' := .map (seenE (l0.take (j + 1)) 0).toArray (j + 1)) HB1.out HMB.out)
                clear hf hf2 hno hin2 hO hD hMj hM1 hMq hlen
                generalize hO2 : Obj.map (seenE (l0.take (j + 1)) 0).toArray (j + 1) = O at *
                have HO := Lib.hid hO2
                clear hO2
                have q0 := (blk_cell hbq 0).trans rfl
                clear hbq hb8
                go_wp2_with (fail)
                go_roundw
                case rel => exact ⟨j + 1, by omega, by go_num, HD2, by rw [HO.out]; exact HMq.out, HBq.out⟩
                case measure => simp [intOf]; omega
            · have hl1 := look_map hM1 p.f0 i (.int .i64 1) (by simpa using hf)
              have hu1 := upd_old hM1 p.f0 (.int .i64 2) (.int .i64 1) i e (by simpa using he) hes (by simpa using hf)
              have hf3 := find_modify p.f0 (.int .i64 2) (seenE (l0.take j) 0) 0 i (.int .i64 1) (by rw [Nat.zero_add]; exact hf)
              rw [Nat.zero_add] at hf3
              have hMq := putMap_at (o' := .map ((seenE (l0.take j) 0).toArray.modify i fun e => { e with key := .string p.f0, val := .int .i64 2 }) j) hM1
              have hl2 := look_map hMq p.f0 i (.int .i64 2) (by rw [Array.toList_modify]; simpa using hf3)
              have hbq := (putMap_far (o' := .map ((seenE (l0.take j) 0).toArray.modify i fun e => { e with key := .string p.f0, val := .int .i64 2 }) j) hM1 hne8).trans hb8
              have HBq := Lib.hid (below_putMap (o' := .map ((seenE (l0.take j) 0).toArray.modify i fun e => { e with key := .string p.f0, val := .int .i64 2 }) j) HB1.out HMB.out)
              have hz : printC l0 = (⟨#[]⟩, 8) := by
                rw [KPP.out, if_pos]
                intro hnd
                rw [HTD.out] at hnd
                unfold idsC at hnd hin
                rw [List.map_append, List.nodup_append] at hnd
                exact hnd.2.2 _ hin p.f0 (by simp) rfl
              have hq := KP.out
              rw [hz] at hq
              obtain ⟨rfl, rfl⟩ := Prod.mk.inj hq
              clear hz hq hf hf3 hin he hes hD hMj hM1 hMq hlen
              generalize Obj.map ((seenE (l0.take j) 0).toArray.modify i fun e => { e with key := .string p.f0, val := .int .i64 2 }) j = O at *
              have q0 := (blk_cell hbq 0).trans rfl
              clear hbq hb8
              go_wp2_with (fail)
              go_ret2
              exact ⟨rfl, HBq.out⟩
          · have hjn : j = k := by omega
            subst hjn
            have hnd : (idsC l0).Nodup := by
              have := hD.out
              rwa [List.take_of_length_le (by rw [KN.out]; exact Nat.le_refl _)] at this
            have hPP2 : printC l0 = if j > 256 then (⟨#[]⟩, 32) else if (linesB l0).length > 65536 then (⟨#[]⟩, 1) else (bs (linesB l0), 0) := by
              rw [KPP.out, if_neg (by simpa using hnd), KN.out]
            have KP2 := Lib.hid hPP2
            have HBr := Lib.hid hB
            clear hD hMj hB hnd hPP2
            by_cases hbig : 256 < j
            · go_wp2_with (fail)
              have hq := KP.out
              rw [KP2.out, if_pos hbig] at hq
              obtain ⟨rfl, rfl⟩ := Prod.mk.inj hq
              go_ret2
              exact ⟨rfl, HBr.out⟩
            · go_wp2_with (fail)
              obtain ⟨B, hBs⟩ : ∃ B, B = wr.heap.size := ⟨_, rfl⟩
              have hI0 := Lib.fresh_isBuilder 88 5 wr
              have hB0 := below_alloc HBr.out (.cells #[.pointer none, .slice none 0 0] 88)
              have HBB := Lib.hid (show w.heap.size ≤ B by rw [hBs]; exact HBr.out.size)
              rw [← hBs] at hI0 ⊢
              clear hBs HBr
              go_loopw [45] (fun v45 ws => ∃ i : Nat, i ≤ j ∧ v45 = .int .i64 (i : Int) ∧ Lib.IsBuilder 88 5 B B (Lib.byteCells (linesB (l0.take i))) ws ∧ Below w.heap.size w ws) (fun v45 _ => j - (intOf v45).toNat)
              case atStart => exact ⟨0, Nat.zero_le _, rfl, hI0, hB0⟩
              case round =>
                clear hI0 hB0
                obtain ⟨i, hi, rfl, hI, hB⟩ := hrel
                have hIlt : B < wr.heap.size := by rcases hI with h | h <;> exact h.lt
                have hlen : (Lib.byteCells (linesB (l0.take i))).length ≤ 3001 * 256 := by
                  rw [Lib.byteCells_length]
                  have h1 := linesB_len (l0.take i) fun x hx => KA.out x (List.mem_of_mem_take hx)
                  rw [List.length_take] at h1
                  have : min i l0.length ≤ 256 := by omega
                  omega
                by_cases hij : i < j
                · have hkl : i < l0.length := by rw [KN.out]; exact hij
                  obtain ⟨ad, A5, c5, hA, h0, h1, h2, h3, h4, h5, hl5, hi5⟩ := at_T40 (Kd.C_below HR.out hB) (i : Int) (by omega) (by omega)
                  subst hA
                  have hp : rd_T40 l0 (i : Int) = l0[i] := by simp [rd_T40, hkl]
                  rw [hp] at h0 h1 h2 h3 h4 h5 hl5 hi5
                  simp only [Int.toNat_natCast] at h0 h1 h2 h3 h4 h5
                  have htk := linesB_take l0 i hkl
                  have hmem := List.getElem_mem hkl
                  clear hp
                  generalize hpk : l0[i] = p at *
                  have HTK := Lib.hid htk
                  have hfit := fits_of _ (KA.out p hmem)
                  obtain ⟨kc, hkc⟩ := (line_ev (toT p) hfit).rounds
                  have HCk := Lib.hid (fun (V : World) (h : Kd.C Kd.string V A5 p.f5.length p.f5) => client_line.calls kc p.f0 p.f1 p.f2 p.f3 p.f4 A5 c5 p.f5 (bs (lineB (toT p))) V h hl5 hkc)
                  have hll := lineB_len (toT p) hfit
                  have HLN := Lib.hid (show (bs (lineB (toT p))).size = (lineB (toT p)).length by simp [bs, ByteArray.size])
                  have HSC := Lib.hid (show Lib.strCells (bs (lineB (toT p))) = Lib.byteCells (lineB (toT p)) by rw [strCells_bytes]; simp [bs])
                  generalize hLB : bs (lineB (toT p)) = LB at *
                  have HLL := Lib.hid hll
                  have HI5 := Lib.hid hi5
                  have HBr := Lib.hid hB
                  have HIb := Lib.hid (isBuilder_below hI ((Below.refl _ wr).alloc (Nat.le_refl _) (.cells #[.string p.f0, .string p.f1, .int .i64 p.f2, .bool p.f3, .string p.f4, .slice A5 p.f5.length c5] 40)))
                  clear htk hmem hkc hi5 hB hpk hI hll hLB
                  go_wp2_with (fail)
                  refine (HCk.out _ (Kd.C_alloc HI5.out _)).mono ?_
                  rintro e w1 ⟨rfl, hb1⟩
                  have HIb1 := Lib.hid (isBuilder_below HIb.out hb1)
                  have HB1 := Lib.hid (below_step (below_alloc HBr.out _) hb1)
                  have hz1 : B ≤ w1.heap.size := by
                    have := hb1.size
                    simp only [World.alloc, Array.size_push] at this
                    omega
                  clear hb1
                  go_wp2_with (fail)
                  refine (Bld.writeString B B _ LB w1 HIb1.out (by rw [HLN.out]; have := HLL.out; omega) hz1).mono ?_
                  rintro e w2 ⟨rfl, hI2, hb2, _⟩
                  go_wp2_with (fail)
                  go_roundw
                  case rel => exact ⟨i + 1, by omega, by go_num, by rw [HTK.out, Lib.byteCells_append, ← HSC.out]; exact hI2, HB1.out.trans (hb2.mono HBB.out)⟩
                  case measure => simp [intOf]; omega
                · have hij2 : i = j := by omega
                  subst hij2
                  have hbs : linesB (l0.take i) = linesB l0 := by rw [List.take_of_length_le (by rw [KN.out]; exact Nat.le_refl _)]
                  rw [hbs] at hI hlen
                  have HIr := Lib.hid hI
                  have HBr := Lib.hid hB
                  have HLen := Lib.hid (show (Lib.byteCells (linesB l0)).length = (linesB l0).length from Lib.byteCells_length _)
                  have hlt1 : (Lib.byteCells (linesB l0)).length ≤ 3001 * 256 := hlen
                  clear hI hB hbs hlen
                  go_wp2_with (fail)
                  refine (Tryz.Builder_Len B B _ _ HIr.out).mono ?_
                  rintro e w1 ⟨rfl, rfl⟩
                  by_cases hl : (Lib.byteCells (linesB l0)).length > 65536
                  · go_wp2_with (fail)
                    have hq := KP.out
                    rw [KP2.out, if_neg hbig, if_pos (by rw [← HLen.out]; exact hl)] at hq
                    obtain ⟨rfl, rfl⟩ := Prod.mk.inj hq
                    go_ret2
                    exact ⟨rfl, HBr.out⟩
                  · go_wp2_with (fail)
                    refine (Tryz.Builder_String_any B B _ _ HIr.out (by omega)).mono ?_
                    rintro e w1 ⟨rfl, hb1⟩
                    have HB2 := Lib.hid (HBr.out.trans (hb1.mono HBB.out))
                    clear hb1
                    have hq := KP.out
                    rw [KP2.out, if_neg hbig, if_neg (by rw [← HLen.out]; exact hl)] at hq
                    obtain ⟨rfl, rfl⟩ := Prod.mk.inj hq
                    go_wp2_with (fail)
                    go_ret2
                    exact ⟨rfl, HB2.out⟩
  · cases h
end Go.Proofs.YtmimipgmhgalaaaGreatDoor.PAll
end
section
namespace Go.Proofs.YtmimipgmhgalaaaGreatDoor.PAll
open Go.RowKit Go.Proofs.YtmimipgmhgalaaaGreatDoorW.PrintWords Go.Proofs.YtmimipgmhgalaaaGreatDoorW.PrintLast Go.Proofs.YtmimipgmhgalaaaGreatDoorW.PrintMore
attribute [local go_sem] max2_int min2_int max_two min_two max_three min_three max_four min_four
set_option linter.unusedVariables false
set_option linter.unusedSimpArgs false
mutual
def wicketref11_Print.l0 : Nat → List (S43) → Int → Option (ByteArray × Int)
  | 0, _, _ => none
  | k + 1, x0, x4 => if x4 < (x0.length : Int) then (if 0 ≤ x4 then ((wicketref11_Check.f k ((rd_T43 x0 x4).f0) ((rd_T43 x0 x4).f1) ((rd_T43 x0 x4).f2) ((rd_T43 x0 x4).f3) ((rd_T43 x0 x4).f4) ((rd_T43 x0 x4).f5)).bind fun t504 => (if t504 = 0 then (wicketref11_Print.l0 k x0 (wrap64 (x4 + 1))) else (some ((⟨#[]⟩ : ByteArray), 111)))) else (none)) else (wicketref11_Print.l1 k x0 0)
def wicketref11_Print.l1 : Nat → List (S43) → Int → Option (ByteArray × Int)
  | 0, _, _ => none
  | k + 1, x0, x5 => if x5 < (x0.length : Int) then (if 0 ≤ x5 then (if x5 ≤ (x0.length : Int) then ((wicketref11_Find.f k (x0.take (x5 : Int).toNat) ((rd_T43 x0 x5).f0)).bind fun bt510 => (if bt510.2.2.2.2.2.2 = true then (some ((⟨#[]⟩ : ByteArray), 8)) else (wicketref11_Print.l1 k x0 (wrap64 (x5 + 1))))) else (none)) else (none)) else (if (x0.length : Int) > 256 then (some ((⟨#[]⟩ : ByteArray), 32)) else (wicketref11_Print.l2 k x0 (⟨#[]⟩ : ByteArray) 0))
def wicketref11_Print.l2 : Nat → List (S43) → ByteArray → Int → Option (ByteArray × Int)
  | 0, _, _, _ => none
  | k + 1, x0, x8, x9 => if x9 < (x0.length : Int) then (if 0 ≤ x9 then ((wicketref11_said.f k ((rd_T43 x0 x9).f0) ((rd_T43 x0 x9).f1) ((rd_T43 x0 x9).f2) ((rd_T43 x0 x9).f3) ((rd_T43 x0 x9).f4) ((rd_T43 x0 x9).f5)).bind fun t521 => (if x8.size + t521.size ≤ 9223372036854775807 then (wicketref11_Print.l2 k x0 (x8 ++ t521) (wrap64 (x9 + 1))) else (none))) else (none)) else (if (x8.size : Int) > 65536 then (some ((⟨#[]⟩ : ByteArray), 1)) else (some (x8, 0)))
end
def wicketref11_Print.f (k : Nat) (l0 : List (S43)) : Option (ByteArray × Int) := wicketref11_Print.l0 k l0 0
def wicketref11_Print.T9 : Bool × List (List Nat × List Nat) := (true, [([], []), ([], []), ([0, 1], [0, 1]), ([], []), ([], []), ([3, 4], [3, 4]), ([5], [5]), ([6], [6]), ([2, 7], [2, 7]), ([8], [8]), ([9], [9]), ([9], [9]), ([], []), ([12, 10, 8, 0, 1, 2, 3, 4, 5, 6, 7, 8, 9, 10, 12], [10, 12]), ([11, 13, 0, 1, 2, 3, 4, 5, 6, 7, 8, 9, 10, 11, 12, 13], [11])])
def wicketref11_Print.B9 : List Nat := [0, 0, 3, 0, 0, 24, 56, 120, 255, 511, 1023, 1023, 0, 6143, 16383]
theorem wicketref11_Print.tab9 : rtab .any (opsOf Tryz.f17 9) = wicketref11_Print.T9 := by kernel_rfl
theorem wicketref11_Print.bits9 : waitsOk wicketref11_Print.T9.2 wicketref11_Print.B9 = true := by kernel_rfl
set_option maxHeartbeats 8000000 in
set_option maxRecDepth 100000 in
theorem wicketref11_Print.calls (k : Nat) (A0 : Option Addr) (c0 : Nat) (l0 : List (S43)) (r1 : ByteArray) (r2 : Int) (w : World) (hr0 : Kd.C k43 w A0 l0.length l0) (hc0 : l0.length ≤ c0) (h : wicketref11_Print.f k l0 = some (r1, r2)) :
    Calls Tryz.prog 17 #[.slice A0 l0.length c0] w fun e w' => e = .returned (.tuple #[.string r1, .int .i64 r2]) ∧ Below w.heap.size w w' := by
  have hu43 := Tryz.underlying43
  have HR0 := Aside0.mk hr0
  have HC0 := Aside0.mk hc0
  clear hr0 hc0
  have HB := Aside0.mk (Below.refl w.heap.size w)
  have H : (wicketref11_Print.l0 k l0 0) = some (r1, r2) := h
  clear h
  have H' := Aside0.mk H
  clear H
  go_enter Tryz.func17, Tryz.ntmps17
  go_wp2
  go_loopg [4] k (fun kq v4 w' => ∃ (x4_1 : Int), v4 = .int .i64 x4_1 ∧ Aside0 (wicketref11_Print.l0 kq l0 x4_1 = some (r1, r2)) ∧ Aside0 (kq ≤ k) ∧ Aside0 (Below w.heap.size w w'))
  case atStart => exact ⟨(0), (by first | rfl | (simp; done) | (simp [*]; done) | (simp; (generalize ByteArray.toList _ = z_); cases z_ <;> rfl)), H', ⟨Nat.le_refl _⟩, ⟨by repeat (first | (with_reducible first | exact HB.out | apply below_alloc | apply pw_below_drewN | apply below_drew1) | exact HB.out)⟩⟩
  case round =>
    clear H'
    try clear c1
    obtain ⟨x4_1, rfl, HA, HK1, HB⟩ := hrel
    cases gk with
    | zero => exact absurd HA.out (by simp [wicketref11_Print.l0])
    | succ k1 =>
      have H := HA.out
      clear HA
      simp only [wicketref11_Print.l0] at H
      by_cases c2 : x4_1 < (l0.length : Int)
      · rw [if_pos c2] at H
        have c2b0 : decide (x4_1 < (l0.length : Int)) = true := decide_eq_true c2
        clear c2
        by_cases c3 : 0 ≤ x4_1
        · rw [if_pos c3] at H
          have c3b0 : decide (0 ≤ x4_1) = true := decide_eq_true c3
          clear c3
          replace H := Option.bind_eq_some_iff.mp H
          obtain ⟨t504, A40, H⟩ := H
          replace H : (if t504 = 0 then (wicketref11_Print.l0 k1 l0 (wrap64 (x4_1 + 1))) else (some ((⟨#[]⟩ : ByteArray), 111))) = some (r1, r2) := H
          have A4 := Aside0.mk A40
          clear A40
          by_cases c5 : t504 = 0
          · rw [if_pos c5] at H
            have c5b0 : (t504 == 0) = true := beq_iff_eq.mpr c5
            have c5b1 : (t504 != 0) = false := bne_eq_false_iff_eq.mpr c5
            clear c5
            have H' := Aside0.mk H
            clear H
            have p503 : 0 ≤ (x4_1 : Int) := of_decide_eq_true (by first | (with_reducible assumption) | assumption)
            have q503 : x4_1 < (l0.length : Int) := of_decide_eq_true (by first | (with_reducible assumption) | assumption)
            obtain ⟨ad503, A503_5, c503_5, e503, hx503_0, hx503_1, hx503_2, hx503_3, hx503_4, hx503_5, hl503_5, hi503_5⟩ := at_T43 HR0.out x4_1 p503 q503
            cases e503
            replace hx503_0 := (HB.out.cell (World.block_lt_of_cell? w _ hx503_0)).trans hx503_0
            replace hx503_1 := (HB.out.cell (World.block_lt_of_cell? w _ hx503_1)).trans hx503_1
            replace hx503_2 := (HB.out.cell (World.block_lt_of_cell? w _ hx503_2)).trans hx503_2
            replace hx503_3 := (HB.out.cell (World.block_lt_of_cell? w _ hx503_3)).trans hx503_3
            replace hx503_4 := (HB.out.cell (World.block_lt_of_cell? w _ hx503_4)).trans hx503_4
            replace hx503_5 := (HB.out.cell (World.block_lt_of_cell? w _ hx503_5)).trans hx503_5
            have HR503_5 := Aside0.mk hi503_5
            have HC503_5 := Aside0.mk hl503_5
            clear hi503_5 hl503_5
            replace p503 := eq_true p503
            replace q503 := eq_true q503
            go_wp2_with (first | ((with_reducible refine gate_callee (f := 26) rfl ?_); refine goesL_ (some 20) rfl rfl Tryz.func26 (by kernel_rfl) rfl #[.agg #[.string ((rd_T43 l0 x4_1).f0), .string ((rd_T43 l0 x4_1).f1), .int .i64 ((rd_T43 l0 x4_1).f2), .bool ((rd_T43 l0 x4_1).f3), .string ((rd_T43 l0 x4_1).f4), .slice A503_5 ((rd_T43 l0 x4_1).f5).length c503_5]] rfl (by (try simp only [List.map_toArray, List.map_cons, List.map_nil]); first | done | rfl | (simp only [List.length_drop, List.length_take]; rfl)) ?_; (with_reducible refine (wicketref11_Check.calls k1 ((rd_T43 l0 x4_1).f0) ((rd_T43 l0 x4_1).f1) ((rd_T43 l0 x4_1).f2) ((rd_T43 l0 x4_1).f3) ((rd_T43 l0 x4_1).f4) _ _ ((rd_T43 l0 x4_1).f5) t504 _ ?side1 ?side2 A4.out).mono ?_); (case side1 => repeat (first | exact (Kd.C_below HR503_5.out HB.out) | (with_reducible refine Kd.C_alloc ?_ _) | (with_reducible refine Kd.C_drewN ?_ _) | (with_reducible refine Kd.C_drew ?_))); (case side2 => exact HC503_5.out); rintro e w6 ⟨rfl, hb⟩; refine ⟨_, rfl, ?_⟩; have n0_ := Aside0.mk (below_step (by repeat (first | (with_reducible first | exact HB.out | apply below_alloc | apply pw_below_drewN | apply below_drew1) | exact HB.out)) hb); clear HB; have HB := n0_; clear n0_; (try clear hb); (try clear hb2); (try clear hk); (try clear hi)))
            go_roundg k1
            case measure => have := HK1.out; omega
            case rel => exact ⟨(wrap64 (x4_1 + 1)), (by first | rfl | (simp; done) | (simp [*]; done) | (simp; (generalize ByteArray.toList _ = z_); cases z_ <;> rfl)), H', ⟨by have := HK1.out; omega⟩, ⟨by repeat (first | (with_reducible first | exact HB.out | apply below_alloc | apply pw_below_drewN | apply below_drew1) | exact HB.out)⟩⟩
          · rw [if_neg c5] at H
            have c5b0 : (t504 == 0) = false := beq_eq_false_iff_ne.mpr c5
            have c5b1 : (t504 != 0) = true := bne_iff_ne.mpr c5
            simp only [Option.some.injEq, Prod.mk.injEq] at H
            obtain ⟨rfl, rfl⟩ := H
            have p503 : 0 ≤ (x4_1 : Int) := of_decide_eq_true (by first | (with_reducible assumption) | assumption)
            have q503 : x4_1 < (l0.length : Int) := of_decide_eq_true (by first | (with_reducible assumption) | assumption)
            obtain ⟨ad503, A503_5, c503_5, e503, hx503_0, hx503_1, hx503_2, hx503_3, hx503_4, hx503_5, hl503_5, hi503_5⟩ := at_T43 HR0.out x4_1 p503 q503
            cases e503
            replace hx503_0 := (HB.out.cell (World.block_lt_of_cell? w _ hx503_0)).trans hx503_0
            replace hx503_1 := (HB.out.cell (World.block_lt_of_cell? w _ hx503_1)).trans hx503_1
            replace hx503_2 := (HB.out.cell (World.block_lt_of_cell? w _ hx503_2)).trans hx503_2
            replace hx503_3 := (HB.out.cell (World.block_lt_of_cell? w _ hx503_3)).trans hx503_3
            replace hx503_4 := (HB.out.cell (World.block_lt_of_cell? w _ hx503_4)).trans hx503_4
            replace hx503_5 := (HB.out.cell (World.block_lt_of_cell? w _ hx503_5)).trans hx503_5
            have HR503_5 := Aside0.mk hi503_5
            have HC503_5 := Aside0.mk hl503_5
            clear hi503_5 hl503_5
            replace p503 := eq_true p503
            replace q503 := eq_true q503
            go_wp2_with (first | ((with_reducible refine gate_callee (f := 26) rfl ?_); refine goesL_ (some 20) rfl rfl Tryz.func26 (by kernel_rfl) rfl #[.agg #[.string ((rd_T43 l0 x4_1).f0), .string ((rd_T43 l0 x4_1).f1), .int .i64 ((rd_T43 l0 x4_1).f2), .bool ((rd_T43 l0 x4_1).f3), .string ((rd_T43 l0 x4_1).f4), .slice A503_5 ((rd_T43 l0 x4_1).f5).length c503_5]] rfl (by (try simp only [List.map_toArray, List.map_cons, List.map_nil]); first | done | rfl | (simp only [List.length_drop, List.length_take]; rfl)) ?_; (with_reducible refine (wicketref11_Check.calls k1 ((rd_T43 l0 x4_1).f0) ((rd_T43 l0 x4_1).f1) ((rd_T43 l0 x4_1).f2) ((rd_T43 l0 x4_1).f3) ((rd_T43 l0 x4_1).f4) _ _ ((rd_T43 l0 x4_1).f5) t504 _ ?side1 ?side2 A4.out).mono ?_); (case side1 => repeat (first | exact (Kd.C_below HR503_5.out HB.out) | (with_reducible refine Kd.C_alloc ?_ _) | (with_reducible refine Kd.C_drewN ?_ _) | (with_reducible refine Kd.C_drew ?_))); (case side2 => exact HC503_5.out); rintro e w7 ⟨rfl, hb⟩; refine ⟨_, rfl, ?_⟩; have n0_ := Aside0.mk (below_step (by repeat (first | (with_reducible first | exact HB.out | apply below_alloc | apply pw_below_drewN | apply below_drew1) | exact HB.out)) hb); clear HB; have HB := n0_; clear n0_; (try clear hb); (try clear hb2); (try clear hk); (try clear hi)))
            go_ret2
            exact ⟨by first | rfl | (simp [errW_none, errW_some] <;> rfl) | (simp [*, errW_none, errW_some] <;> rfl) | (simp; (generalize ByteArray.toList _ = z_); cases z_ <;> rfl), by repeat (first | (with_reducible first | exact HB.out | apply below_alloc | apply pw_below_drewN | apply below_drew1) | exact HB.out)⟩
        · rw [if_neg c3] at H
          exact absurd H (by simp)
      · rw [if_neg c2] at H
        have c2b0 : decide (x4_1 < (l0.length : Int)) = false := decide_eq_false c2
        clear c2
        have H' := Aside0.mk H
        clear H
        go_wp2
        go_loopg [5] k1 (fun kq v5 w' => ∃ (x5_2 : Int), v5 = .int .i64 x5_2 ∧ Aside0 (wicketref11_Print.l1 kq l0 x5_2 = some (r1, r2)) ∧ Aside0 (kq ≤ k1) ∧ Aside0 (Below w.heap.size w w'))
        case atStart => exact ⟨(0), (by first | rfl | (simp; done) | (simp [*]; done) | (simp; (generalize ByteArray.toList _ = z_); cases z_ <;> rfl)), H', ⟨Nat.le_refl _⟩, ⟨by repeat (first | (with_reducible first | exact HB.out | apply below_alloc | apply pw_below_drewN | apply below_drew1) | exact HB.out)⟩⟩
        case round =>
          clear H'
          try clear c1
          try clear c2
          try clear c2b0
          try clear p2
          try clear c3
          try clear c3b0
          try clear c5
          try clear c5b0
          try clear c5b1
          try clear p5
          try clear q5
          try clear hx5
          try clear p6
          try clear hx503_0
          try clear hx503_1
          try clear hx503_2
          try clear hx503_3
          try clear hx503_4
          try clear hx503_5
          try clear p503
          try clear q503
          obtain ⟨x5_2, rfl, HA, HK2, HB⟩ := hrel
          cases gk with
          | zero => exact absurd HA.out (by simp [wicketref11_Print.l1])
          | succ k2 =>
            have H := HA.out
            clear HA
            simp only [wicketref11_Print.l1] at H
            by_cases c8 : x5_2 < (l0.length : Int)
            · rw [if_pos c8] at H
              have c8b0 : decide (x5_2 < (l0.length : Int)) = true := decide_eq_true c8
              clear c8
              by_cases c9 : 0 ≤ x5_2
              · rw [if_pos c9] at H
                have c9b0 := eq_true c9
                have c9b1 : decide (0 ≤ x5_2) = true := decide_eq_true c9
                clear c9
                by_cases c10 : x5_2 ≤ (l0.length : Int)
                · rw [if_pos c10] at H
                  have c10b0 := eq_true c10
                  have c10b1 : decide (x5_2 ≤ (l0.length : Int)) = true := decide_eq_true c10
                  clear c10
                  obtain ⟨y505, hy505⟩ : ∃ y_ : List (S43), y_ = (l0.take (x5_2 : Int).toNat) := ⟨_, rfl⟩
                  replace H : ((wicketref11_Find.f k2 y505 ((rd_T43 l0 x5_2).f0)).bind fun bt510 => (if bt510.2.2.2.2.2.2 = true then (some ((⟨#[]⟩ : ByteArray), 8)) else (wicketref11_Print.l1 k2 l0 (wrap64 (x5_2 + 1))))) = some (r1, r2) := by first | (rw [hy505]; with_reducible exact H) | (have H2_ := (Option.bind_some _ _).symm.trans H; rw [hy505]; with_reducible exact H2_) | (have H2_ := (Option.bind_some _ _).symm.trans H; with_reducible exact H2_) | with_reducible exact H | (rw [hy505]; exact H) | exact H
                  have Ny505 := Aside0.mk hy505
                  clear hy505
                  replace H := Option.bind_eq_some_iff.mp H
                  obtain ⟨⟨t510, t511, t512, t513, t514, t515, t518⟩, A110, H⟩ := H
                  replace H : (if t518 = true then (some ((⟨#[]⟩ : ByteArray), 8)) else (wicketref11_Print.l1 k2 l0 (wrap64 (x5_2 + 1)))) = some (r1, r2) := H
                  have A11 := Aside0.mk A110
                  clear A110
                  by_cases c12 : t518 = true
                  · subst c12
                    have H1 : (some ((⟨#[]⟩ : ByteArray), 8)) = some (r1, r2) := by rw [if_pos rfl] at H; exact H
                    clear H
                    have H := H1
                    clear H1
                    simp only [Option.some.injEq, Prod.mk.injEq] at H
                    obtain ⟨rfl, rfl⟩ := H
                    try go_wp2
                    have n0_ := Aside0.mk (below_drew1 HB.out)
                    clear HB
                    have HB := n0_
                    clear n0_
                    have q14 : (x5_2 : Int) ≤ ((l0.length : Int) : Int) := of_decide_eq_true (by first | (with_reducible assumption) | assumption)
                    obtain ⟨i014, hi014, _, hsz14, _⟩ := info_parts info43
                    have hroom14 : l0.length ≤ c0 := HC0.out
                    have hC14 : Kd.C k43 _ A0 l0.length l0 := HR0.out
                    have hcut14 := cut_to (P := Tryz.prog) 29 43 .i64 Tryz.underlying29 hi014 A0 l0.length c0 x5_2 (of_decide_eq_true (by first | (with_reducible assumption) | assumption)) q14 hroom14
                    have hr14 := Kd.C_take (m := (x5_2 : Int).toNat) hC14 (by omega)
                    have hy14 : y505.length = (x5_2 : Int).toNat := (by rw [Ny505.out, List.length_take]; omega)
                    rw [← Ny505.out] at hr14
                    rw [← hy14] at hcut14
                    have HR508 := Aside0.mk hr14
                    have HC508 := Aside0.mk (show y505.length ≤ c0 from by omega)
                    clear hr14 hC14 hroom14 hi014 hsz14
                    have KY14 := Aside0.mk hy14
                    clear hy14
                    replace q14 := eq_true q14
                    have p509 : 0 ≤ (x5_2 : Int) := of_decide_eq_true (by first | (with_reducible assumption) | assumption)
                    have q509 : x5_2 < (l0.length : Int) := of_decide_eq_true (by first | (with_reducible assumption) | assumption)
                    obtain ⟨ad509, A509_5, c509_5, e509, hx509_0, hx509_1, hx509_2, hx509_3, hx509_4, hx509_5, hl509_5, hi509_5⟩ := at_T43 HR0.out x5_2 p509 q509
                    have hw509_5 := hx509_5
                    have hw509_4 := hx509_4
                    have hw509_3 := hx509_3
                    have hw509_2 := hx509_2
                    have hw509_1 := hx509_1
                    have hw509_0 := hx509_0
                    cases e509
                    replace hx509_0 := (HB.out.cell (World.block_lt_of_cell? w _ hx509_0)).trans hx509_0
                    replace hx509_1 := (HB.out.cell (World.block_lt_of_cell? w _ hx509_1)).trans hx509_1
                    replace hx509_2 := (HB.out.cell (World.block_lt_of_cell? w _ hx509_2)).trans hx509_2
                    replace hx509_3 := (HB.out.cell (World.block_lt_of_cell? w _ hx509_3)).trans hx509_3
                    replace hx509_4 := (HB.out.cell (World.block_lt_of_cell? w _ hx509_4)).trans hx509_4
                    replace hx509_5 := (HB.out.cell (World.block_lt_of_cell? w _ hx509_5)).trans hx509_5
                    have HR509_5 := Aside0.mk hi509_5
                    have HC509_5 := Aside0.mk hl509_5
                    clear hi509_5 hl509_5
                    replace p509 := eq_true p509
                    replace q509 := eq_true q509
                    refine start_ (n := 15) (S := fun w' => w'.cell? (ad509.add ((x5_2).toNat * 6)) = some (.string ((rd_T43 l0 x5_2).f0)) ∧ w'.cell? ⟨(ad509.add ((x5_2).toNat * 6)).block, (ad509.add ((x5_2).toNat * 6)).off + 1, none⟩ = some (.string ((rd_T43 l0 x5_2).f1)) ∧ w'.cell? ⟨(ad509.add ((x5_2).toNat * 6)).block, (ad509.add ((x5_2).toNat * 6)).off + 2, none⟩ = some (.int .i64 ((rd_T43 l0 x5_2).f2)) ∧ w'.cell? ⟨(ad509.add ((x5_2).toNat * 6)).block, (ad509.add ((x5_2).toNat * 6)).off + 3, none⟩ = some (.bool ((rd_T43 l0 x5_2).f3)) ∧ w'.cell? ⟨(ad509.add ((x5_2).toNat * 6)).block, (ad509.add ((x5_2).toNat * 6)).off + 4, none⟩ = some (.string ((rd_T43 l0 x5_2).f4)) ∧ w'.cell? ⟨(ad509.add ((x5_2).toNat * 6)).block, (ad509.add ((x5_2).toNat * 6)).off + 5, none⟩ = some (.slice A509_5 ((rd_T43 l0 x5_2).f5).length c509_5)) (ds := []) #[false, false, false, false, false, false, false, false, false, false, false, false, false, false, false] (by kernel_rfl) rfl rfl ⟨((HB.out.cell (World.block_lt_of_cell? w _ hw509_0)).trans hw509_0), ((HB.out.cell (World.block_lt_of_cell? w _ hw509_1)).trans hw509_1), ((HB.out.cell (World.block_lt_of_cell? w _ hw509_2)).trans hw509_2), ((HB.out.cell (World.block_lt_of_cell? w _ hw509_3)).trans hw509_3), ((HB.out.cell (World.block_lt_of_cell? w _ hw509_4)).trans hw509_4), ((HB.out.cell (World.block_lt_of_cell? w _ hw509_5)).trans hw509_5)⟩ (fun hHeld => ?_); refine with_tabW wicketref11_Print.tab9 wicketref11_Print.bits9 (fun HT_ HW_ => ?_)
                    generalize wr.drew = w13 at HB HR508 HR509_5 hx509_0 hx509_1 hx509_2 hx509_3 hx509_4 hx509_5 hHeld ⊢
                    refine pure_ (i := 0) (N := some 29) (v := ?_) (a' := ?_) #[true, false, false, false, false, false, false, false, false, false, false, false, false, false, false] rfl rfl (any_of HT_.out (by kernel_rfl)) (fun _ _ _ h => h) (Or.inl ⟨by rfl, ?_⟩) ?_ ?_
                    rotate_left
                    · intro w'
                      go_simp
                      with_reducible rfl
                    rotate_left
                    · simp only [Act.put, List.setIfInBounds_toArray, List.set_cons_zero, List.set_cons_succ, i64_w, i32_w]
                      rfl
                    refine pure_ (i := 1) (N := some 30) (v := ?_) (a' := ?_) #[true, true, false, false, false, false, false, false, false, false, false, false, false, false, false] rfl rfl (any_of HT_.out (by kernel_rfl)) (fun _ _ _ h => h) (Or.inl ⟨by rfl, ?_⟩) ?_ ?_
                    rotate_left
                    · intro w'
                      go_simp
                      with_reducible rfl
                    rotate_left
                    · simp only [Act.put, List.setIfInBounds_toArray, List.set_cons_zero, List.set_cons_succ, i64_w, i32_w]
                      rfl
                    refine pure_ (i := 2) (N := some 31) (v := ?_) (a' := ?_) #[true, true, true, false, false, false, false, false, false, false, false, false, false, false, false] rfl rfl (any_of HT_.out (by kernel_rfl)) (fun _ _ _ h => h) (Or.inl ⟨by rfl, ?_⟩) ?_ ?_
                    rotate_left
                    · intro w'
                      go_simp
                      with_reducible rfl
                    rotate_left
                    · simp only [Act.put, List.setIfInBounds_toArray, List.set_cons_zero, List.set_cons_succ, i64_w, i32_w]
                      rfl
                    refine pure_ (i := 3) (N := some 32) (v := ?_) (a' := ?_) #[true, true, true, true, false, false, false, false, false, false, false, false, false, false, false] rfl rfl (any_of HT_.out (by kernel_rfl)) (fun _ _ _ h => h) (Or.inl ⟨by rfl, ?_⟩) ?_ ?_
                    rotate_left
                    · intro w'
                      go_simp
                      with_reducible rfl
                    rotate_left
                    · simp only [Act.put, List.setIfInBounds_toArray, List.set_cons_zero, List.set_cons_succ, i64_w, i32_w]
                      rfl
                    refine pure_ (i := 4) (N := some 33) (v := ?_) (a' := ?_) #[true, true, true, true, true, false, false, false, false, false, false, false, false, false, false] rfl rfl (any_of HT_.out (by kernel_rfl)) (fun _ _ _ h => h) (Or.inl ⟨by rfl, ?_⟩) ?_ ?_
                    rotate_left
                    · intro w'
                      go_simp
                      with_reducible rfl
                    rotate_left
                    · simp only [Act.put, List.setIfInBounds_toArray, List.set_cons_zero, List.set_cons_succ, i64_w, i32_w]
                      rfl
                    refine pure_ (i := 5) (N := some 34) (v := ?_) (a' := ?_) #[true, true, true, true, true, true, false, false, false, false, false, false, false, false, false] rfl rfl (any_of HT_.out (by kernel_rfl)) (fun _ _ _ h => h) (Or.inl ⟨by rfl, ?_⟩) ?_ ?_
                    rotate_left
                    · intro w'
                      go_simp
                      with_reducible rfl
                    rotate_left
                    · simp only [Act.put, List.setIfInBounds_toArray, List.set_cons_zero, List.set_cons_succ, i64_w, i32_w]
                      rfl
                    refine pure_ (i := 6) (N := some 35) (v := ?_) (a' := ?_) #[true, true, true, true, true, true, true, false, false, false, false, false, false, false, false] rfl rfl (any_of HT_.out (by kernel_rfl)) (fun _ _ _ h => h) (Or.inl ⟨by rfl, ?_⟩) ?_ ?_
                    rotate_left
                    · intro w'
                      go_simp
                      with_reducible rfl
                    rotate_left
                    · simp only [Act.put, List.setIfInBounds_toArray, List.set_cons_zero, List.set_cons_succ, i64_w, i32_w]
                      rfl
                    refine take_ (i := 7) (N := some 36) (v := ?_) (a' := ?_) #[true, true, true, true, true, true, true, true, false, false, false, false, false, false, false] rfl rfl (take_ofW HT_.out HW_.out (by kernel_rfl)) (fun _ _ _ h => h) (Or.inl ⟨by rfl, ?_⟩) hHeld ?_ ?_
                    rotate_left
                    · rintro w' ⟨s0, s1, s2, s3, s4, s5⟩
                      go_simp
                      with_reducible rfl
                    rotate_left
                    · simp only [Act.put, List.setIfInBounds_toArray, List.set_cons_zero, List.set_cons_succ, i64_w, i32_w]
                      rfl
                    refine join_ (σ := Value × Nat) 2 #[true, true, true, true, true, true, true, true, true, true, true, true, true, false, false] (fun s_ => [(37, .tuple #[.agg #[.string t510, .string t511, .int .i64 t512, .bool t513, .string t514, s_.1], .bool true]), (6, .pointer (some ⟨s_.2, 0, none⟩)), (28, .tuple #[.agg #[.string t510, .string t511, .int .i64 t512, .bool t513, .string t514, s_.1], .bool true]), (38, .agg #[.string t510, .string t511, .int .i64 t512, .bool t513, .string t514, s_.1]), (39, .bool true)]) (fun s_ w' => (w'.cell? (ad509.add ((x5_2).toNat * 6)) = some (.string ((rd_T43 l0 x5_2).f0)) ∧ w'.cell? ⟨(ad509.add ((x5_2).toNat * 6)).block, (ad509.add ((x5_2).toNat * 6)).off + 1, none⟩ = some (.string ((rd_T43 l0 x5_2).f1)) ∧ w'.cell? ⟨(ad509.add ((x5_2).toNat * 6)).block, (ad509.add ((x5_2).toNat * 6)).off + 2, none⟩ = some (.int .i64 ((rd_T43 l0 x5_2).f2)) ∧ w'.cell? ⟨(ad509.add ((x5_2).toNat * 6)).block, (ad509.add ((x5_2).toNat * 6)).off + 3, none⟩ = some (.bool ((rd_T43 l0 x5_2).f3)) ∧ w'.cell? ⟨(ad509.add ((x5_2).toNat * 6)).block, (ad509.add ((x5_2).toNat * 6)).off + 4, none⟩ = some (.string ((rd_T43 l0 x5_2).f4)) ∧ w'.cell? ⟨(ad509.add ((x5_2).toNat * 6)).block, (ad509.add ((x5_2).toNat * 6)).off + 5, none⟩ = some (.slice A509_5 ((rd_T43 l0 x5_2).f5).length c509_5)) ∧ (Kd.V Kd.string 9 w' w.heap.size (fun k_ => k_ ≠ s_.2) s_.1 t515) ∧ (w'.heap[s_.2]? = some (.cells #[.string (⟨#[]⟩ : ByteArray), .string (⟨#[]⟩ : ByteArray), .int .i64 0, .bool false, .string (⟨#[]⟩ : ByteArray), .slice none 0 0] 43 (0, 0))) ∧ (w.heap.size ≤ s_.2) ∧ (w.heap.size ≤ s_.2) ∧ (Below w.heap.size w w')) ?_ ?_
                    rotate_left
                    · intro hCont
                      refine two_ (i := 8) (j := 12) (Ni := some 37) (Nj := some 6) #[true, true, true, true, true, true, true, true, true, false, false, false, false, false, false] #[true, true, true, true, true, true, true, true, false, false, false, false, true, false, false] rfl rfl rfl rfl (two_of HT_.out (by kernel_rfl)) (by decide) (by decide) (fun K hK => ?_) (fun K hK => ?_)
                      · skip
                        refine goes_ Tryz.func30 (by kernel_rfl) rfl #[.slice (some ad509) y505.length c0, .string ((rd_T43 l0 x5_2).f0)] (by rfl) rfl rfl (by (try simp only [List.map_toArray, List.map_cons, List.map_nil]); first | done | rfl | (simp only [List.length_drop, List.length_take]; rfl)) ?_
                        with_reducible refine (wicketref11_Find.calls k2 (fun k_ => k_ < w.heap.size) _ _ y505 ((rd_T43 l0 x5_2).f0) t510 t511 t512 t513 t514 t515 true _ ?side1 A11.out).mono ?_
                        (case side1 => exact Kd.V_mk HC508.out (Kd.F_below (Kd.C_F k43_heap HR508.out) (by repeat (first | (with_reducible first | exact HB.out | apply below_alloc | apply pw_below_drewN | apply below_drew1) | exact HB.out))))
                        rintro e w15 ⟨v516, rfl, ho0, hb⟩
                        refine ⟨_, rfl, ?_⟩
                        have n0_ := Aside0.mk (Kd.V_lower (Kd.V_mono (ok' := fun k_ => True) ho0 (fun k_ hk_ => trivial)) (below_size (by repeat (first | (with_reducible first | exact HB.out | apply below_alloc | apply pw_below_drewN | apply below_drew1) | exact HB.out))))
                        have n1_ := Aside0.mk (below_step (by repeat (first | (with_reducible first | exact HB.out | apply below_alloc | apply pw_below_drewN | apply below_drew1) | exact HB.out)) hb)
                        clear HB
                        have HO517 := n0_
                        have HB := n1_
                        clear n0_ n1_
                        (try clear hb)
                        (try clear hb2)
                        (try clear hk)
                        (try clear hi)
                        (try clear ho0)
                        refine hK.out _ _ ⟨((HB.out.cell (World.block_lt_of_cell? w _ hw509_0)).trans hw509_0), ((HB.out.cell (World.block_lt_of_cell? w _ hw509_1)).trans hw509_1), ((HB.out.cell (World.block_lt_of_cell? w _ hw509_2)).trans hw509_2), ((HB.out.cell (World.block_lt_of_cell? w _ hw509_3)).trans hw509_3), ((HB.out.cell (World.block_lt_of_cell? w _ hw509_4)).trans hw509_4), ((HB.out.cell (World.block_lt_of_cell? w _ hw509_5)).trans hw509_5)⟩ (fun hHeld => ?_)
                        clear hK K
                        refine norm_ (a' := ?_) ?_ ?_
                        rotate_left
                        · show Act.put _ (some 37) _ = _
                          simp only [Act.put, List.setIfInBounds_toArray, List.set_cons_zero, List.set_cons_succ, i64_w, i32_w]
                          rfl
                        refine pure_ (i := 9) (N := some 28) (v := ?_) (a' := ?_) #[true, true, true, true, true, true, true, true, true, true, false, false, false, false, false] rfl rfl (any_of HT_.out (by kernel_rfl)) (fun _ _ _ h => h) (Or.inl ⟨by rfl, ?_⟩) ?_ ?_
                        rotate_left
                        · intro w'
                          go_simp
                          with_reducible rfl
                        rotate_left
                        · simp only [Act.put, List.setIfInBounds_toArray, List.set_cons_zero, List.set_cons_succ, i64_w, i32_w]
                          rfl
                        refine pure_ (i := 10) (N := some 38) (v := ?_) (a' := ?_) #[true, true, true, true, true, true, true, true, true, true, true, false, false, false, false] rfl rfl (any_of HT_.out (by kernel_rfl)) (fun _ _ _ h => h) (Or.inl ⟨by rfl, ?_⟩) ?_ ?_
                        rotate_left
                        · intro w'
                          go_simp
                          with_reducible rfl
                        rotate_left
                        · simp only [Act.put, List.setIfInBounds_toArray, List.set_cons_zero, List.set_cons_succ, i64_w, i32_w]
                          rfl
                        refine pure_ (i := 11) (N := some 39) (v := ?_) (a' := ?_) #[true, true, true, true, true, true, true, true, true, true, true, true, false, false, false] rfl rfl (any_of HT_.out (by kernel_rfl)) (fun _ _ _ h => h) (Or.inl ⟨by rfl, ?_⟩) ?_ ?_
                        rotate_left
                        · intro w'
                          go_simp
                          with_reducible rfl
                        rotate_left
                        · simp only [Act.put, List.setIfInBounds_toArray, List.set_cons_zero, List.set_cons_succ, i64_w, i32_w]
                          rfl
                        refine one_ (i := 12) (N := some 6) #[true, true, true, true, true, true, true, true, true, true, true, true, true, false, false] rfl rfl (one_of HT_.out (by kernel_rfl)) (by decide) (fun K hK => ?_)
                        refine box_step ?hg (N := 6) ?hd (cs := #[.string (⟨#[]⟩ : ByteArray), .string (⟨#[]⟩ : ByteArray), .int .i64 0, .bool false, .string (⟨#[]⟩ : ByteArray), .slice none 0 0]) (t := 43) ?hr ?_; (case hd => rfl); (case hg => rfl); (case hr => first | (go_simp; done) | (go_simp; rfl))
                        intro gb519 hg w16 hbox hb
                        have n0_ := Aside0.mk (Kd.V_below (Kd.V_elderB (by (with_reducible repeat (first | apply Kd.V_alloc | apply Kd.V_drewN | apply Kd.V_drew)); exact HO517.out) gb519 (Nat.le_of_eq hg.symm)) hb)
                        have n1_ := Aside0.mk (below_step (by repeat (first | (with_reducible first | exact HB.out | apply below_alloc | apply pw_below_drewN | apply below_drew1) | exact HB.out)) hb)
                        have n2_ := Aside0.mk (hbox)
                        have n3_ := Aside0.mk ((by rw [hg]; exact (below_size (by repeat (first | (with_reducible first | exact HB.out | apply below_alloc | apply pw_below_drewN | apply below_drew1) | exact HB.out))) : w.heap.size ≤ gb519))
                        have n4_ := Aside0.mk ((by rw [hg]; exact (below_size (by repeat (first | (with_reducible first | exact HB.out | apply below_alloc | apply pw_below_drewN | apply below_drew1) | exact HB.out))) : w.heap.size ≤ gb519))
                        clear HO517
                        clear HB
                        have HO517 := n0_
                        have HB := n1_
                        have BK519 := n2_
                        have GW519 := n3_
                        have GE519 := n4_
                        clear n0_ n1_ n2_ n3_ n4_
                        clear hb hbox hg
                        refine hK.out _ _ ⟨((HB.out.cell (World.block_lt_of_cell? w _ hw509_0)).trans hw509_0), ((HB.out.cell (World.block_lt_of_cell? w _ hw509_1)).trans hw509_1), ((HB.out.cell (World.block_lt_of_cell? w _ hw509_2)).trans hw509_2), ((HB.out.cell (World.block_lt_of_cell? w _ hw509_3)).trans hw509_3), ((HB.out.cell (World.block_lt_of_cell? w _ hw509_4)).trans hw509_4), ((HB.out.cell (World.block_lt_of_cell? w _ hw509_5)).trans hw509_5)⟩ (fun hHeld => ?_)
                        clear hK K
                        refine norm_ (a' := ?_) ?_ ?_
                        rotate_left
                        · show Act.put _ (some 6) _ = _
                          simp only [Act.put, List.setIfInBounds_toArray, List.set_cons_zero, List.set_cons_succ, i64_w, i32_w]
                          rfl
                        exact norm_ (by simp only [putAll, Act.put, List.setIfInBounds_toArray, List.set_cons_zero, List.set_cons_succ]) (hCont (v516, gb519) _ ⟨hHeld, (by (with_reducible repeat (first | apply Kd.V_alloc | apply Kd.V_drewN | apply Kd.V_drew)); exact Kd.V_mono HO517.out (fun _ hk => hk.2)), (by (with_reducible repeat (first | refine blk_drewN ?_ _ | refine blk_drew ?_ | refine blk_alloc ?_ _)); exact BK519.out), GW519.out, GE519.out, (by repeat (first | (with_reducible first | exact HB.out | apply below_alloc | apply pw_below_drewN | apply below_drew1 | refine below_set ?_ GE519.out) | exact HB.out))⟩)
                      · skip
                        refine box_step ?hg (N := 6) ?hd (cs := #[.string (⟨#[]⟩ : ByteArray), .string (⟨#[]⟩ : ByteArray), .int .i64 0, .bool false, .string (⟨#[]⟩ : ByteArray), .slice none 0 0]) (t := 43) ?hr ?_; (case hd => rfl); (case hg => rfl); (case hr => first | (go_simp; done) | (go_simp; rfl))
                        intro gb519 hg w15 hbox hb
                        have n0_ := Aside0.mk (below_step (by repeat (first | (with_reducible first | exact HB.out | apply below_alloc | apply pw_below_drewN | apply below_drew1) | exact HB.out)) hb)
                        have n1_ := Aside0.mk (hbox)
                        have n2_ := Aside0.mk ((by rw [hg]; exact (below_size (by repeat (first | (with_reducible first | exact HB.out | apply below_alloc | apply pw_below_drewN | apply below_drew1) | exact HB.out))) : w.heap.size ≤ gb519))
                        have n3_ := Aside0.mk ((by rw [hg]; exact (below_size (by repeat (first | (with_reducible first | exact HB.out | apply below_alloc | apply pw_below_drewN | apply below_drew1) | exact HB.out))) : w.heap.size ≤ gb519))
                        clear HB
                        have HB := n0_
                        have BK519 := n1_
                        have GW519 := n2_
                        have GE519 := n3_
                        clear n0_ n1_ n2_ n3_
                        clear hb hbox hg
                        refine hK.out _ _ ⟨((HB.out.cell (World.block_lt_of_cell? w _ hw509_0)).trans hw509_0), ((HB.out.cell (World.block_lt_of_cell? w _ hw509_1)).trans hw509_1), ((HB.out.cell (World.block_lt_of_cell? w _ hw509_2)).trans hw509_2), ((HB.out.cell (World.block_lt_of_cell? w _ hw509_3)).trans hw509_3), ((HB.out.cell (World.block_lt_of_cell? w _ hw509_4)).trans hw509_4), ((HB.out.cell (World.block_lt_of_cell? w _ hw509_5)).trans hw509_5)⟩ (fun hHeld => ?_)
                        clear hK K
                        refine norm_ (a' := ?_) ?_ ?_
                        rotate_left
                        · show Act.put _ (some 6) _ = _
                          simp only [Act.put, List.setIfInBounds_toArray, List.set_cons_zero, List.set_cons_succ, i64_w, i32_w]
                          rfl
                        refine one_ (i := 8) (N := some 37) #[true, true, true, true, true, true, true, true, true, false, false, false, true, false, false] rfl rfl (one_of HT_.out (by kernel_rfl)) (by decide) (fun K hK => ?_)
                        refine goes_ Tryz.func30 (by kernel_rfl) rfl #[.slice (some ad509) y505.length c0, .string ((rd_T43 l0 x5_2).f0)] (by rfl) rfl rfl (by (try simp only [List.map_toArray, List.map_cons, List.map_nil]); first | done | rfl | (simp only [List.length_drop, List.length_take]; rfl)) ?_
                        with_reducible refine (wicketref11_Find.calls k2 (fun k_ => k_ < w.heap.size) _ _ y505 ((rd_T43 l0 x5_2).f0) t510 t511 t512 t513 t514 t515 true _ ?side1 A11.out).mono ?_
                        (case side1 => exact Kd.V_mk HC508.out (Kd.F_below (Kd.C_F k43_heap HR508.out) (by repeat (first | (with_reducible first | exact HB.out | apply below_alloc | apply pw_below_drewN | apply below_drew1 | refine below_set ?_ GE519.out) | exact HB.out))))
                        rintro e w16 ⟨v516, rfl, ho0, hb⟩
                        refine ⟨_, rfl, ?_⟩
                        have n0_ := Aside0.mk (Kd.V_lower (Kd.V_mono (ok' := fun k_ => k_ ≠ gb519) ho0 (fun k_ hk_ => Or.elim hk_ (fun hs_ => fun e_ => Nat.not_le.2 hs_ (by rw [e_]; exact GW519.out)) (fun hn_ => (Kd.freshB (g := gb519) (o := .cells #[.string (⟨#[]⟩ : ByteArray), .string (⟨#[]⟩ : ByteArray), .int .i64 0, .bool false, .string (⟨#[]⟩ : ByteArray), .slice none 0 0] 43 (0, 0)) (by (with_reducible repeat (first | refine blk_drewN ?_ _ | refine blk_drew ?_ | refine blk_alloc ?_ _)); exact BK519.out) k_ hn_)))) (below_size (by repeat (first | (with_reducible first | exact HB.out | apply below_alloc | apply pw_below_drewN | apply below_drew1 | refine below_set ?_ GE519.out) | exact HB.out))))
                        have n1_ := Aside0.mk (blk_below (g := gb519) (o := .cells #[.string (⟨#[]⟩ : ByteArray), .string (⟨#[]⟩ : ByteArray), .int .i64 0, .bool false, .string (⟨#[]⟩ : ByteArray), .slice none 0 0] 43 (0, 0)) (by (with_reducible repeat (first | refine blk_drewN ?_ _ | refine blk_drew ?_ | refine blk_alloc ?_ _)); exact BK519.out) hb)
                        have n2_ := Aside0.mk (below_step (by repeat (first | (with_reducible first | exact HB.out | apply below_alloc | apply pw_below_drewN | apply below_drew1 | refine below_set ?_ GE519.out) | exact HB.out)) hb)
                        clear BK519
                        clear HB
                        have HO517 := n0_
                        have BK519 := n1_
                        have HB := n2_
                        clear n0_ n1_ n2_
                        (try clear hb)
                        (try clear hb2)
                        (try clear hk)
                        (try clear hi)
                        (try clear ho0)
                        refine hK.out _ _ ⟨((HB.out.cell (World.block_lt_of_cell? w _ hw509_0)).trans hw509_0), ((HB.out.cell (World.block_lt_of_cell? w _ hw509_1)).trans hw509_1), ((HB.out.cell (World.block_lt_of_cell? w _ hw509_2)).trans hw509_2), ((HB.out.cell (World.block_lt_of_cell? w _ hw509_3)).trans hw509_3), ((HB.out.cell (World.block_lt_of_cell? w _ hw509_4)).trans hw509_4), ((HB.out.cell (World.block_lt_of_cell? w _ hw509_5)).trans hw509_5)⟩ (fun hHeld => ?_)
                        clear hK K
                        refine norm_ (a' := ?_) ?_ ?_
                        rotate_left
                        · show Act.put _ (some 37) _ = _
                          simp only [Act.put, List.setIfInBounds_toArray, List.set_cons_zero, List.set_cons_succ, i64_w, i32_w]
                          rfl
                        refine pure_ (i := 9) (N := some 28) (v := ?_) (a' := ?_) #[true, true, true, true, true, true, true, true, true, true, false, false, true, false, false] rfl rfl (any_of HT_.out (by kernel_rfl)) (fun _ _ _ h => h) (Or.inl ⟨by rfl, ?_⟩) ?_ ?_
                        rotate_left
                        · intro w'
                          go_simp
                          with_reducible rfl
                        rotate_left
                        · simp only [Act.put, List.setIfInBounds_toArray, List.set_cons_zero, List.set_cons_succ, i64_w, i32_w]
                          rfl
                        refine pure_ (i := 10) (N := some 38) (v := ?_) (a' := ?_) #[true, true, true, true, true, true, true, true, true, true, true, false, true, false, false] rfl rfl (any_of HT_.out (by kernel_rfl)) (fun _ _ _ h => h) (Or.inl ⟨by rfl, ?_⟩) ?_ ?_
                        rotate_left
                        · intro w'
                          go_simp
                          with_reducible rfl
                        rotate_left
                        · simp only [Act.put, List.setIfInBounds_toArray, List.set_cons_zero, List.set_cons_succ, i64_w, i32_w]
                          rfl
                        refine pure_ (i := 11) (N := some 39) (v := ?_) (a' := ?_) #[true, true, true, true, true, true, true, true, true, true, true, true, true, false, false] rfl rfl (any_of HT_.out (by kernel_rfl)) (fun _ _ _ h => h) (Or.inl ⟨by rfl, ?_⟩) ?_ ?_
                        rotate_left
                        · intro w'
                          go_simp
                          with_reducible rfl
                        rotate_left
                        · simp only [Act.put, List.setIfInBounds_toArray, List.set_cons_zero, List.set_cons_succ, i64_w, i32_w]
                          rfl
                        exact norm_ (by simp only [putAll, Act.put, List.setIfInBounds_toArray, List.set_cons_zero, List.set_cons_succ]) (hCont (v516, gb519) _ ⟨hHeld, (by (with_reducible repeat (first | apply Kd.V_alloc | apply Kd.V_drewN | apply Kd.V_drew)); exact HO517.out), (by (with_reducible repeat (first | refine blk_drewN ?_ _ | refine blk_drew ?_ | refine blk_alloc ?_ _)); exact BK519.out), GW519.out, GE519.out, (by repeat (first | (with_reducible first | exact HB.out | apply below_alloc | apply pw_below_drewN | apply below_drew1 | refine below_set ?_ GE519.out) | exact HB.out))⟩)
                    rintro ⟨v516, gb519⟩ w17 ⟨hS_, h0_, h1_, h2_, h3_, h4_⟩
                    have n0_ : Aside0 (Kd.V Kd.string 9 w17 w.heap.size (fun k_ => k_ ≠ gb519) v516 t515) := ⟨h0_⟩
                    have n1_ : Aside0 (w17.heap[gb519]? = some (.cells #[.string (⟨#[]⟩ : ByteArray), .string (⟨#[]⟩ : ByteArray), .int .i64 0, .bool false, .string (⟨#[]⟩ : ByteArray), .slice none 0 0] 43 (0, 0))) := ⟨h1_⟩
                    have n2_ : Aside0 (w.heap.size ≤ gb519) := ⟨h2_⟩
                    have n3_ : Aside0 (w.heap.size ≤ gb519) := ⟨h3_⟩
                    have n4_ : Aside0 (Below w.heap.size w w17) := ⟨h4_⟩
                    clear HB
                    clear h0_ h1_ h2_ h3_ h4_
                    have HO517 := n0_
                    have BK519 := n1_
                    have GW519 := n2_
                    have GE519 := n3_
                    have HB := n4_
                    clear n0_ n1_ n2_ n3_ n4_
                    have hHeld : w17.cell? (ad509.add ((x5_2).toNat * 6)) = some (.string ((rd_T43 l0 x5_2).f0)) ∧ w17.cell? ⟨(ad509.add ((x5_2).toNat * 6)).block, (ad509.add ((x5_2).toNat * 6)).off + 1, none⟩ = some (.string ((rd_T43 l0 x5_2).f1)) ∧ w17.cell? ⟨(ad509.add ((x5_2).toNat * 6)).block, (ad509.add ((x5_2).toNat * 6)).off + 2, none⟩ = some (.int .i64 ((rd_T43 l0 x5_2).f2)) ∧ w17.cell? ⟨(ad509.add ((x5_2).toNat * 6)).block, (ad509.add ((x5_2).toNat * 6)).off + 3, none⟩ = some (.bool ((rd_T43 l0 x5_2).f3)) ∧ w17.cell? ⟨(ad509.add ((x5_2).toNat * 6)).block, (ad509.add ((x5_2).toNat * 6)).off + 4, none⟩ = some (.string ((rd_T43 l0 x5_2).f4)) ∧ w17.cell? ⟨(ad509.add ((x5_2).toNat * 6)).block, (ad509.add ((x5_2).toNat * 6)).off + 5, none⟩ = some (.slice A509_5 ((rd_T43 l0 x5_2).f5).length c509_5) := hS_
                    obtain ⟨Ao23, co23, eo23⟩ := Kd.V_slice HO517.out
                    (first | subst eo23 | (injection eo23 with f1_ f2_ f3_; have f4_ := f1_.symm; have f5_ := f3_.symm; clear f1_ f2_ f3_; subst f4_; subst f5_))
                    refine norm_ (a' := ?_) ?_ ?_
                    rotate_left
                    · simp only [putAll, Act.put, List.setIfInBounds_toArray, List.set_cons_zero, List.set_cons_succ]
                      rfl
                    refine one_ (i := 13) (N := none) #[true, true, true, true, true, true, true, true, true, true, true, true, true, true, false] rfl rfl (one_of HT_.out (by kernel_rfl)) (by decide) (fun K hK => ?_)
                    have hs18 : w17.cell? ⟨gb519, 0, none⟩ = some (.string (⟨#[]⟩ : ByteArray)) := (blk_cell BK519.out 0).trans rfl
                    have hfs18 := blk_frozen BK519.out 0
                    have hs19 : w17.cell? ⟨gb519, 1, none⟩ = some (.string (⟨#[]⟩ : ByteArray)) := (blk_cell BK519.out 1).trans rfl
                    have hfs19 := blk_frozen BK519.out 1
                    have hs20 : w17.cell? ⟨gb519, 2, none⟩ = some (.int .i64 0) := (blk_cell BK519.out 2).trans rfl
                    have hfs20 := blk_frozen BK519.out 2
                    have hs21 : w17.cell? ⟨gb519, 3, none⟩ = some (.bool false) := (blk_cell BK519.out 3).trans rfl
                    have hfs21 := blk_frozen BK519.out 3
                    have hs22 : w17.cell? ⟨gb519, 4, none⟩ = some (.string (⟨#[]⟩ : ByteArray)) := (blk_cell BK519.out 4).trans rfl
                    have hfs22 := blk_frozen BK519.out 4
                    have hs24 : w17.cell? ⟨gb519, 5, none⟩ = some (.slice none 0 0) := (blk_cell BK519.out 5).trans rfl
                    have hfs24 := blk_frozen BK519.out 5
                    refine skip_ (w1 := ?_) (by rfl) rfl ?_ ?_
                    rotate_left
                    · go_simp
                      rfl
                    refine hK.out _ _ ⟨((cell_far (p := ⟨gb519, _, none⟩) (by first | exact Nat.ne_of_lt (Nat.lt_of_lt_of_le (by have := World.block_lt_of_cell? _ _ hw509_0; first | rwa [add_block] at this | exact this) GW519.out) | (rw [add_block]; exact Nat.ne_of_lt (Nat.lt_of_lt_of_le (by have := World.block_lt_of_cell? _ _ hw509_0; first | rwa [add_block] at this | exact this) GW519.out)) | (show (Addr.add _ _).block ≠ _; rw [add_block]; exact Nat.ne_of_lt (Nat.lt_of_lt_of_le (by have := World.block_lt_of_cell? _ _ hw509_0; first | rwa [add_block] at this | exact this) GW519.out)) | (dsimp only; exact Nat.ne_of_lt (Nat.lt_of_lt_of_le (by have := World.block_lt_of_cell? _ _ hw509_0; first | rwa [add_block] at this | exact this) GW519.out))) _).trans (((cell_far (p := ⟨gb519, _, none⟩) (by first | exact Nat.ne_of_lt (Nat.lt_of_lt_of_le (by have := World.block_lt_of_cell? _ _ hw509_0; first | rwa [add_block] at this | exact this) GW519.out) | (rw [add_block]; exact Nat.ne_of_lt (Nat.lt_of_lt_of_le (by have := World.block_lt_of_cell? _ _ hw509_0; first | rwa [add_block] at this | exact this) GW519.out)) | (show (Addr.add _ _).block ≠ _; rw [add_block]; exact Nat.ne_of_lt (Nat.lt_of_lt_of_le (by have := World.block_lt_of_cell? _ _ hw509_0; first | rwa [add_block] at this | exact this) GW519.out)) | (dsimp only; exact Nat.ne_of_lt (Nat.lt_of_lt_of_le (by have := World.block_lt_of_cell? _ _ hw509_0; first | rwa [add_block] at this | exact this) GW519.out))) _).trans (((cell_far (p := ⟨gb519, _, none⟩) (by first | exact Nat.ne_of_lt (Nat.lt_of_lt_of_le (by have := World.block_lt_of_cell? _ _ hw509_0; first | rwa [add_block] at this | exact this) GW519.out) | (rw [add_block]; exact Nat.ne_of_lt (Nat.lt_of_lt_of_le (by have := World.block_lt_of_cell? _ _ hw509_0; first | rwa [add_block] at this | exact this) GW519.out)) | (show (Addr.add _ _).block ≠ _; rw [add_block]; exact Nat.ne_of_lt (Nat.lt_of_lt_of_le (by have := World.block_lt_of_cell? _ _ hw509_0; first | rwa [add_block] at this | exact this) GW519.out)) | (dsimp only; exact Nat.ne_of_lt (Nat.lt_of_lt_of_le (by have := World.block_lt_of_cell? _ _ hw509_0; first | rwa [add_block] at this | exact this) GW519.out))) _).trans (((cell_far (p := ⟨gb519, _, none⟩) (by first | exact Nat.ne_of_lt (Nat.lt_of_lt_of_le (by have := World.block_lt_of_cell? _ _ hw509_0; first | rwa [add_block] at this | exact this) GW519.out) | (rw [add_block]; exact Nat.ne_of_lt (Nat.lt_of_lt_of_le (by have := World.block_lt_of_cell? _ _ hw509_0; first | rwa [add_block] at this | exact this) GW519.out)) | (show (Addr.add _ _).block ≠ _; rw [add_block]; exact Nat.ne_of_lt (Nat.lt_of_lt_of_le (by have := World.block_lt_of_cell? _ _ hw509_0; first | rwa [add_block] at this | exact this) GW519.out)) | (dsimp only; exact Nat.ne_of_lt (Nat.lt_of_lt_of_le (by have := World.block_lt_of_cell? _ _ hw509_0; first | rwa [add_block] at this | exact this) GW519.out))) _).trans (((cell_far (p := ⟨gb519, _, none⟩) (by first | exact Nat.ne_of_lt (Nat.lt_of_lt_of_le (by have := World.block_lt_of_cell? _ _ hw509_0; first | rwa [add_block] at this | exact this) GW519.out) | (rw [add_block]; exact Nat.ne_of_lt (Nat.lt_of_lt_of_le (by have := World.block_lt_of_cell? _ _ hw509_0; first | rwa [add_block] at this | exact this) GW519.out)) | (show (Addr.add _ _).block ≠ _; rw [add_block]; exact Nat.ne_of_lt (Nat.lt_of_lt_of_le (by have := World.block_lt_of_cell? _ _ hw509_0; first | rwa [add_block] at this | exact this) GW519.out)) | (dsimp only; exact Nat.ne_of_lt (Nat.lt_of_lt_of_le (by have := World.block_lt_of_cell? _ _ hw509_0; first | rwa [add_block] at this | exact this) GW519.out))) _).trans (((cell_far (p := ⟨gb519, _, none⟩) (by first | exact Nat.ne_of_lt (Nat.lt_of_lt_of_le (by have := World.block_lt_of_cell? _ _ hw509_0; first | rwa [add_block] at this | exact this) GW519.out) | (rw [add_block]; exact Nat.ne_of_lt (Nat.lt_of_lt_of_le (by have := World.block_lt_of_cell? _ _ hw509_0; first | rwa [add_block] at this | exact this) GW519.out)) | (show (Addr.add _ _).block ≠ _; rw [add_block]; exact Nat.ne_of_lt (Nat.lt_of_lt_of_le (by have := World.block_lt_of_cell? _ _ hw509_0; first | rwa [add_block] at this | exact this) GW519.out)) | (dsimp only; exact Nat.ne_of_lt (Nat.lt_of_lt_of_le (by have := World.block_lt_of_cell? _ _ hw509_0; first | rwa [add_block] at this | exact this) GW519.out))) _).trans (hHeld.1)))))))))))), ((cell_far (p := ⟨gb519, _, none⟩) (by first | exact Nat.ne_of_lt (Nat.lt_of_lt_of_le (by have := World.block_lt_of_cell? _ _ hw509_1; first | rwa [add_block] at this | exact this) GW519.out) | (rw [add_block]; exact Nat.ne_of_lt (Nat.lt_of_lt_of_le (by have := World.block_lt_of_cell? _ _ hw509_1; first | rwa [add_block] at this | exact this) GW519.out)) | (show (Addr.add _ _).block ≠ _; rw [add_block]; exact Nat.ne_of_lt (Nat.lt_of_lt_of_le (by have := World.block_lt_of_cell? _ _ hw509_1; first | rwa [add_block] at this | exact this) GW519.out)) | (dsimp only; exact Nat.ne_of_lt (Nat.lt_of_lt_of_le (by have := World.block_lt_of_cell? _ _ hw509_1; first | rwa [add_block] at this | exact this) GW519.out))) _).trans (((cell_far (p := ⟨gb519, _, none⟩) (by first | exact Nat.ne_of_lt (Nat.lt_of_lt_of_le (by have := World.block_lt_of_cell? _ _ hw509_1; first | rwa [add_block] at this | exact this) GW519.out) | (rw [add_block]; exact Nat.ne_of_lt (Nat.lt_of_lt_of_le (by have := World.block_lt_of_cell? _ _ hw509_1; first | rwa [add_block] at this | exact this) GW519.out)) | (show (Addr.add _ _).block ≠ _; rw [add_block]; exact Nat.ne_of_lt (Nat.lt_of_lt_of_le (by have := World.block_lt_of_cell? _ _ hw509_1; first | rwa [add_block] at this | exact this) GW519.out)) | (dsimp only; exact Nat.ne_of_lt (Nat.lt_of_lt_of_le (by have := World.block_lt_of_cell? _ _ hw509_1; first | rwa [add_block] at this | exact this) GW519.out))) _).trans (((cell_far (p := ⟨gb519, _, none⟩) (by first | exact Nat.ne_of_lt (Nat.lt_of_lt_of_le (by have := World.block_lt_of_cell? _ _ hw509_1; first | rwa [add_block] at this | exact this) GW519.out) | (rw [add_block]; exact Nat.ne_of_lt (Nat.lt_of_lt_of_le (by have := World.block_lt_of_cell? _ _ hw509_1; first | rwa [add_block] at this | exact this) GW519.out)) | (show (Addr.add _ _).block ≠ _; rw [add_block]; exact Nat.ne_of_lt (Nat.lt_of_lt_of_le (by have := World.block_lt_of_cell? _ _ hw509_1; first | rwa [add_block] at this | exact this) GW519.out)) | (dsimp only; exact Nat.ne_of_lt (Nat.lt_of_lt_of_le (by have := World.block_lt_of_cell? _ _ hw509_1; first | rwa [add_block] at this | exact this) GW519.out))) _).trans (((cell_far (p := ⟨gb519, _, none⟩) (by first | exact Nat.ne_of_lt (Nat.lt_of_lt_of_le (by have := World.block_lt_of_cell? _ _ hw509_1; first | rwa [add_block] at this | exact this) GW519.out) | (rw [add_block]; exact Nat.ne_of_lt (Nat.lt_of_lt_of_le (by have := World.block_lt_of_cell? _ _ hw509_1; first | rwa [add_block] at this | exact this) GW519.out)) | (show (Addr.add _ _).block ≠ _; rw [add_block]; exact Nat.ne_of_lt (Nat.lt_of_lt_of_le (by have := World.block_lt_of_cell? _ _ hw509_1; first | rwa [add_block] at this | exact this) GW519.out)) | (dsimp only; exact Nat.ne_of_lt (Nat.lt_of_lt_of_le (by have := World.block_lt_of_cell? _ _ hw509_1; first | rwa [add_block] at this | exact this) GW519.out))) _).trans (((cell_far (p := ⟨gb519, _, none⟩) (by first | exact Nat.ne_of_lt (Nat.lt_of_lt_of_le (by have := World.block_lt_of_cell? _ _ hw509_1; first | rwa [add_block] at this | exact this) GW519.out) | (rw [add_block]; exact Nat.ne_of_lt (Nat.lt_of_lt_of_le (by have := World.block_lt_of_cell? _ _ hw509_1; first | rwa [add_block] at this | exact this) GW519.out)) | (show (Addr.add _ _).block ≠ _; rw [add_block]; exact Nat.ne_of_lt (Nat.lt_of_lt_of_le (by have := World.block_lt_of_cell? _ _ hw509_1; first | rwa [add_block] at this | exact this) GW519.out)) | (dsimp only; exact Nat.ne_of_lt (Nat.lt_of_lt_of_le (by have := World.block_lt_of_cell? _ _ hw509_1; first | rwa [add_block] at this | exact this) GW519.out))) _).trans (((cell_far (p := ⟨gb519, _, none⟩) (by first | exact Nat.ne_of_lt (Nat.lt_of_lt_of_le (by have := World.block_lt_of_cell? _ _ hw509_1; first | rwa [add_block] at this | exact this) GW519.out) | (rw [add_block]; exact Nat.ne_of_lt (Nat.lt_of_lt_of_le (by have := World.block_lt_of_cell? _ _ hw509_1; first | rwa [add_block] at this | exact this) GW519.out)) | (show (Addr.add _ _).block ≠ _; rw [add_block]; exact Nat.ne_of_lt (Nat.lt_of_lt_of_le (by have := World.block_lt_of_cell? _ _ hw509_1; first | rwa [add_block] at this | exact this) GW519.out)) | (dsimp only; exact Nat.ne_of_lt (Nat.lt_of_lt_of_le (by have := World.block_lt_of_cell? _ _ hw509_1; first | rwa [add_block] at this | exact this) GW519.out))) _).trans (hHeld.2.1)))))))))))), ((cell_far (p := ⟨gb519, _, none⟩) (by first | exact Nat.ne_of_lt (Nat.lt_of_lt_of_le (by have := World.block_lt_of_cell? _ _ hw509_2; first | rwa [add_block] at this | exact this) GW519.out) | (rw [add_block]; exact Nat.ne_of_lt (Nat.lt_of_lt_of_le (by have := World.block_lt_of_cell? _ _ hw509_2; first | rwa [add_block] at this | exact this) GW519.out)) | (show (Addr.add _ _).block ≠ _; rw [add_block]; exact Nat.ne_of_lt (Nat.lt_of_lt_of_le (by have := World.block_lt_of_cell? _ _ hw509_2; first | rwa [add_block] at this | exact this) GW519.out)) | (dsimp only; exact Nat.ne_of_lt (Nat.lt_of_lt_of_le (by have := World.block_lt_of_cell? _ _ hw509_2; first | rwa [add_block] at this | exact this) GW519.out))) _).trans (((cell_far (p := ⟨gb519, _, none⟩) (by first | exact Nat.ne_of_lt (Nat.lt_of_lt_of_le (by have := World.block_lt_of_cell? _ _ hw509_2; first | rwa [add_block] at this | exact this) GW519.out) | (rw [add_block]; exact Nat.ne_of_lt (Nat.lt_of_lt_of_le (by have := World.block_lt_of_cell? _ _ hw509_2; first | rwa [add_block] at this | exact this) GW519.out)) | (show (Addr.add _ _).block ≠ _; rw [add_block]; exact Nat.ne_of_lt (Nat.lt_of_lt_of_le (by have := World.block_lt_of_cell? _ _ hw509_2; first | rwa [add_block] at this | exact this) GW519.out)) | (dsimp only; exact Nat.ne_of_lt (Nat.lt_of_lt_of_le (by have := World.block_lt_of_cell? _ _ hw509_2; first | rwa [add_block] at this | exact this) GW519.out))) _).trans (((cell_far (p := ⟨gb519, _, none⟩) (by first | exact Nat.ne_of_lt (Nat.lt_of_lt_of_le (by have := World.block_lt_of_cell? _ _ hw509_2; first | rwa [add_block] at this | exact this) GW519.out) | (rw [add_block]; exact Nat.ne_of_lt (Nat.lt_of_lt_of_le (by have := World.block_lt_of_cell? _ _ hw509_2; first | rwa [add_block] at this | exact this) GW519.out)) | (show (Addr.add _ _).block ≠ _; rw [add_block]; exact Nat.ne_of_lt (Nat.lt_of_lt_of_le (by have := World.block_lt_of_cell? _ _ hw509_2; first | rwa [add_block] at this | exact this) GW519.out)) | (dsimp only; exact Nat.ne_of_lt (Nat.lt_of_lt_of_le (by have := World.block_lt_of_cell? _ _ hw509_2; first | rwa [add_block] at this | exact this) GW519.out))) _).trans (((cell_far (p := ⟨gb519, _, none⟩) (by first | exact Nat.ne_of_lt (Nat.lt_of_lt_of_le (by have := World.block_lt_of_cell? _ _ hw509_2; first | rwa [add_block] at this | exact this) GW519.out) | (rw [add_block]; exact Nat.ne_of_lt (Nat.lt_of_lt_of_le (by have := World.block_lt_of_cell? _ _ hw509_2; first | rwa [add_block] at this | exact this) GW519.out)) | (show (Addr.add _ _).block ≠ _; rw [add_block]; exact Nat.ne_of_lt (Nat.lt_of_lt_of_le (by have := World.block_lt_of_cell? _ _ hw509_2; first | rwa [add_block] at this | exact this) GW519.out)) | (dsimp only; exact Nat.ne_of_lt (Nat.lt_of_lt_of_le (by have := World.block_lt_of_cell? _ _ hw509_2; first | rwa [add_block] at this | exact this) GW519.out))) _).trans (((cell_far (p := ⟨gb519, _, none⟩) (by first | exact Nat.ne_of_lt (Nat.lt_of_lt_of_le (by have := World.block_lt_of_cell? _ _ hw509_2; first | rwa [add_block] at this | exact this) GW519.out) | (rw [add_block]; exact Nat.ne_of_lt (Nat.lt_of_lt_of_le (by have := World.block_lt_of_cell? _ _ hw509_2; first | rwa [add_block] at this | exact this) GW519.out)) | (show (Addr.add _ _).block ≠ _; rw [add_block]; exact Nat.ne_of_lt (Nat.lt_of_lt_of_le (by have := World.block_lt_of_cell? _ _ hw509_2; first | rwa [add_block] at this | exact this) GW519.out)) | (dsimp only; exact Nat.ne_of_lt (Nat.lt_of_lt_of_le (by have := World.block_lt_of_cell? _ _ hw509_2; first | rwa [add_block] at this | exact this) GW519.out))) _).trans (((cell_far (p := ⟨gb519, _, none⟩) (by first | exact Nat.ne_of_lt (Nat.lt_of_lt_of_le (by have := World.block_lt_of_cell? _ _ hw509_2; first | rwa [add_block] at this | exact this) GW519.out) | (rw [add_block]; exact Nat.ne_of_lt (Nat.lt_of_lt_of_le (by have := World.block_lt_of_cell? _ _ hw509_2; first | rwa [add_block] at this | exact this) GW519.out)) | (show (Addr.add _ _).block ≠ _; rw [add_block]; exact Nat.ne_of_lt (Nat.lt_of_lt_of_le (by have := World.block_lt_of_cell? _ _ hw509_2; first | rwa [add_block] at this | exact this) GW519.out)) | (dsimp only; exact Nat.ne_of_lt (Nat.lt_of_lt_of_le (by have := World.block_lt_of_cell? _ _ hw509_2; first | rwa [add_block] at this | exact this) GW519.out))) _).trans (hHeld.2.2.1)))))))))))), ((cell_far (p := ⟨gb519, _, none⟩) (by first | exact Nat.ne_of_lt (Nat.lt_of_lt_of_le (by have := World.block_lt_of_cell? _ _ hw509_3; first | rwa [add_block] at this | exact this) GW519.out) | (rw [add_block]; exact Nat.ne_of_lt (Nat.lt_of_lt_of_le (by have := World.block_lt_of_cell? _ _ hw509_3; first | rwa [add_block] at this | exact this) GW519.out)) | (show (Addr.add _ _).block ≠ _; rw [add_block]; exact Nat.ne_of_lt (Nat.lt_of_lt_of_le (by have := World.block_lt_of_cell? _ _ hw509_3; first | rwa [add_block] at this | exact this) GW519.out)) | (dsimp only; exact Nat.ne_of_lt (Nat.lt_of_lt_of_le (by have := World.block_lt_of_cell? _ _ hw509_3; first | rwa [add_block] at this | exact this) GW519.out))) _).trans (((cell_far (p := ⟨gb519, _, none⟩) (by first | exact Nat.ne_of_lt (Nat.lt_of_lt_of_le (by have := World.block_lt_of_cell? _ _ hw509_3; first | rwa [add_block] at this | exact this) GW519.out) | (rw [add_block]; exact Nat.ne_of_lt (Nat.lt_of_lt_of_le (by have := World.block_lt_of_cell? _ _ hw509_3; first | rwa [add_block] at this | exact this) GW519.out)) | (show (Addr.add _ _).block ≠ _; rw [add_block]; exact Nat.ne_of_lt (Nat.lt_of_lt_of_le (by have := World.block_lt_of_cell? _ _ hw509_3; first | rwa [add_block] at this | exact this) GW519.out)) | (dsimp only; exact Nat.ne_of_lt (Nat.lt_of_lt_of_le (by have := World.block_lt_of_cell? _ _ hw509_3; first | rwa [add_block] at this | exact this) GW519.out))) _).trans (((cell_far (p := ⟨gb519, _, none⟩) (by first | exact Nat.ne_of_lt (Nat.lt_of_lt_of_le (by have := World.block_lt_of_cell? _ _ hw509_3; first | rwa [add_block] at this | exact this) GW519.out) | (rw [add_block]; exact Nat.ne_of_lt (Nat.lt_of_lt_of_le (by have := World.block_lt_of_cell? _ _ hw509_3; first | rwa [add_block] at this | exact this) GW519.out)) | (show (Addr.add _ _).block ≠ _; rw [add_block]; exact Nat.ne_of_lt (Nat.lt_of_lt_of_le (by have := World.block_lt_of_cell? _ _ hw509_3; first | rwa [add_block] at this | exact this) GW519.out)) | (dsimp only; exact Nat.ne_of_lt (Nat.lt_of_lt_of_le (by have := World.block_lt_of_cell? _ _ hw509_3; first | rwa [add_block] at this | exact this) GW519.out))) _).trans (((cell_far (p := ⟨gb519, _, none⟩) (by first | exact Nat.ne_of_lt (Nat.lt_of_lt_of_le (by have := World.block_lt_of_cell? _ _ hw509_3; first | rwa [add_block] at this | exact this) GW519.out) | (rw [add_block]; exact Nat.ne_of_lt (Nat.lt_of_lt_of_le (by have := World.block_lt_of_cell? _ _ hw509_3; first | rwa [add_block] at this | exact this) GW519.out)) | (show (Addr.add _ _).block ≠ _; rw [add_block]; exact Nat.ne_of_lt (Nat.lt_of_lt_of_le (by have := World.block_lt_of_cell? _ _ hw509_3; first | rwa [add_block] at this | exact this) GW519.out)) | (dsimp only; exact Nat.ne_of_lt (Nat.lt_of_lt_of_le (by have := World.block_lt_of_cell? _ _ hw509_3; first | rwa [add_block] at this | exact this) GW519.out))) _).trans (((cell_far (p := ⟨gb519, _, none⟩) (by first | exact Nat.ne_of_lt (Nat.lt_of_lt_of_le (by have := World.block_lt_of_cell? _ _ hw509_3; first | rwa [add_block] at this | exact this) GW519.out) | (rw [add_block]; exact Nat.ne_of_lt (Nat.lt_of_lt_of_le (by have := World.block_lt_of_cell? _ _ hw509_3; first | rwa [add_block] at this | exact this) GW519.out)) | (show (Addr.add _ _).block ≠ _; rw [add_block]; exact Nat.ne_of_lt (Nat.lt_of_lt_of_le (by have := World.block_lt_of_cell? _ _ hw509_3; first | rwa [add_block] at this | exact this) GW519.out)) | (dsimp only; exact Nat.ne_of_lt (Nat.lt_of_lt_of_le (by have := World.block_lt_of_cell? _ _ hw509_3; first | rwa [add_block] at this | exact this) GW519.out))) _).trans (((cell_far (p := ⟨gb519, _, none⟩) (by first | exact Nat.ne_of_lt (Nat.lt_of_lt_of_le (by have := World.block_lt_of_cell? _ _ hw509_3; first | rwa [add_block] at this | exact this) GW519.out) | (rw [add_block]; exact Nat.ne_of_lt (Nat.lt_of_lt_of_le (by have := World.block_lt_of_cell? _ _ hw509_3; first | rwa [add_block] at this | exact this) GW519.out)) | (show (Addr.add _ _).block ≠ _; rw [add_block]; exact Nat.ne_of_lt (Nat.lt_of_lt_of_le (by have := World.block_lt_of_cell? _ _ hw509_3; first | rwa [add_block] at this | exact this) GW519.out)) | (dsimp only; exact Nat.ne_of_lt (Nat.lt_of_lt_of_le (by have := World.block_lt_of_cell? _ _ hw509_3; first | rwa [add_block] at this | exact this) GW519.out))) _).trans (hHeld.2.2.2.1)))))))))))), ((cell_far (p := ⟨gb519, _, none⟩) (by first | exact Nat.ne_of_lt (Nat.lt_of_lt_of_le (by have := World.block_lt_of_cell? _ _ hw509_4; first | rwa [add_block] at this | exact this) GW519.out) | (rw [add_block]; exact Nat.ne_of_lt (Nat.lt_of_lt_of_le (by have := World.block_lt_of_cell? _ _ hw509_4; first | rwa [add_block] at this | exact this) GW519.out)) | (show (Addr.add _ _).block ≠ _; rw [add_block]; exact Nat.ne_of_lt (Nat.lt_of_lt_of_le (by have := World.block_lt_of_cell? _ _ hw509_4; first | rwa [add_block] at this | exact this) GW519.out)) | (dsimp only; exact Nat.ne_of_lt (Nat.lt_of_lt_of_le (by have := World.block_lt_of_cell? _ _ hw509_4; first | rwa [add_block] at this | exact this) GW519.out))) _).trans (((cell_far (p := ⟨gb519, _, none⟩) (by first | exact Nat.ne_of_lt (Nat.lt_of_lt_of_le (by have := World.block_lt_of_cell? _ _ hw509_4; first | rwa [add_block] at this | exact this) GW519.out) | (rw [add_block]; exact Nat.ne_of_lt (Nat.lt_of_lt_of_le (by have := World.block_lt_of_cell? _ _ hw509_4; first | rwa [add_block] at this | exact this) GW519.out)) | (show (Addr.add _ _).block ≠ _; rw [add_block]; exact Nat.ne_of_lt (Nat.lt_of_lt_of_le (by have := World.block_lt_of_cell? _ _ hw509_4; first | rwa [add_block] at this | exact this) GW519.out)) | (dsimp only; exact Nat.ne_of_lt (Nat.lt_of_lt_of_le (by have := World.block_lt_of_cell? _ _ hw509_4; first | rwa [add_block] at this | exact this) GW519.out))) _).trans (((cell_far (p := ⟨gb519, _, none⟩) (by first | exact Nat.ne_of_lt (Nat.lt_of_lt_of_le (by have := World.block_lt_of_cell? _ _ hw509_4; first | rwa [add_block] at this | exact this) GW519.out) | (rw [add_block]; exact Nat.ne_of_lt (Nat.lt_of_lt_of_le (by have := World.block_lt_of_cell? _ _ hw509_4; first | rwa [add_block] at this | exact this) GW519.out)) | (show (Addr.add _ _).block ≠ _; rw [add_block]; exact Nat.ne_of_lt (Nat.lt_of_lt_of_le (by have := World.block_lt_of_cell? _ _ hw509_4; first | rwa [add_block] at this | exact this) GW519.out)) | (dsimp only; exact Nat.ne_of_lt (Nat.lt_of_lt_of_le (by have := World.block_lt_of_cell? _ _ hw509_4; first | rwa [add_block] at this | exact this) GW519.out))) _).trans (((cell_far (p := ⟨gb519, _, none⟩) (by first | exact Nat.ne_of_lt (Nat.lt_of_lt_of_le (by have := World.block_lt_of_cell? _ _ hw509_4; first | rwa [add_block] at this | exact this) GW519.out) | (rw [add_block]; exact Nat.ne_of_lt (Nat.lt_of_lt_of_le (by have := World.block_lt_of_cell? _ _ hw509_4; first | rwa [add_block] at this | exact this) GW519.out)) | (show (Addr.add _ _).block ≠ _; rw [add_block]; exact Nat.ne_of_lt (Nat.lt_of_lt_of_le (by have := World.block_lt_of_cell? _ _ hw509_4; first | rwa [add_block] at this | exact this) GW519.out)) | (dsimp only; exact Nat.ne_of_lt (Nat.lt_of_lt_of_le (by have := World.block_lt_of_cell? _ _ hw509_4; first | rwa [add_block] at this | exact this) GW519.out))) _).trans (((cell_far (p := ⟨gb519, _, none⟩) (by first | exact Nat.ne_of_lt (Nat.lt_of_lt_of_le (by have := World.block_lt_of_cell? _ _ hw509_4; first | rwa [add_block] at this | exact this) GW519.out) | (rw [add_block]; exact Nat.ne_of_lt (Nat.lt_of_lt_of_le (by have := World.block_lt_of_cell? _ _ hw509_4; first | rwa [add_block] at this | exact this) GW519.out)) | (show (Addr.add _ _).block ≠ _; rw [add_block]; exact Nat.ne_of_lt (Nat.lt_of_lt_of_le (by have := World.block_lt_of_cell? _ _ hw509_4; first | rwa [add_block] at this | exact this) GW519.out)) | (dsimp only; exact Nat.ne_of_lt (Nat.lt_of_lt_of_le (by have := World.block_lt_of_cell? _ _ hw509_4; first | rwa [add_block] at this | exact this) GW519.out))) _).trans (((cell_far (p := ⟨gb519, _, none⟩) (by first | exact Nat.ne_of_lt (Nat.lt_of_lt_of_le (by have := World.block_lt_of_cell? _ _ hw509_4; first | rwa [add_block] at this | exact this) GW519.out) | (rw [add_block]; exact Nat.ne_of_lt (Nat.lt_of_lt_of_le (by have := World.block_lt_of_cell? _ _ hw509_4; first | rwa [add_block] at this | exact this) GW519.out)) | (show (Addr.add _ _).block ≠ _; rw [add_block]; exact Nat.ne_of_lt (Nat.lt_of_lt_of_le (by have := World.block_lt_of_cell? _ _ hw509_4; first | rwa [add_block] at this | exact this) GW519.out)) | (dsimp only; exact Nat.ne_of_lt (Nat.lt_of_lt_of_le (by have := World.block_lt_of_cell? _ _ hw509_4; first | rwa [add_block] at this | exact this) GW519.out))) _).trans (hHeld.2.2.2.2.1)))))))))))), ((cell_far (p := ⟨gb519, _, none⟩) (by first | exact Nat.ne_of_lt (Nat.lt_of_lt_of_le (by have := World.block_lt_of_cell? _ _ hw509_5; first | rwa [add_block] at this | exact this) GW519.out) | (rw [add_block]; exact Nat.ne_of_lt (Nat.lt_of_lt_of_le (by have := World.block_lt_of_cell? _ _ hw509_5; first | rwa [add_block] at this | exact this) GW519.out)) | (show (Addr.add _ _).block ≠ _; rw [add_block]; exact Nat.ne_of_lt (Nat.lt_of_lt_of_le (by have := World.block_lt_of_cell? _ _ hw509_5; first | rwa [add_block] at this | exact this) GW519.out)) | (dsimp only; exact Nat.ne_of_lt (Nat.lt_of_lt_of_le (by have := World.block_lt_of_cell? _ _ hw509_5; first | rwa [add_block] at this | exact this) GW519.out))) _).trans (((cell_far (p := ⟨gb519, _, none⟩) (by first | exact Nat.ne_of_lt (Nat.lt_of_lt_of_le (by have := World.block_lt_of_cell? _ _ hw509_5; first | rwa [add_block] at this | exact this) GW519.out) | (rw [add_block]; exact Nat.ne_of_lt (Nat.lt_of_lt_of_le (by have := World.block_lt_of_cell? _ _ hw509_5; first | rwa [add_block] at this | exact this) GW519.out)) | (show (Addr.add _ _).block ≠ _; rw [add_block]; exact Nat.ne_of_lt (Nat.lt_of_lt_of_le (by have := World.block_lt_of_cell? _ _ hw509_5; first | rwa [add_block] at this | exact this) GW519.out)) | (dsimp only; exact Nat.ne_of_lt (Nat.lt_of_lt_of_le (by have := World.block_lt_of_cell? _ _ hw509_5; first | rwa [add_block] at this | exact this) GW519.out))) _).trans (((cell_far (p := ⟨gb519, _, none⟩) (by first | exact Nat.ne_of_lt (Nat.lt_of_lt_of_le (by have := World.block_lt_of_cell? _ _ hw509_5; first | rwa [add_block] at this | exact this) GW519.out) | (rw [add_block]; exact Nat.ne_of_lt (Nat.lt_of_lt_of_le (by have := World.block_lt_of_cell? _ _ hw509_5; first | rwa [add_block] at this | exact this) GW519.out)) | (show (Addr.add _ _).block ≠ _; rw [add_block]; exact Nat.ne_of_lt (Nat.lt_of_lt_of_le (by have := World.block_lt_of_cell? _ _ hw509_5; first | rwa [add_block] at this | exact this) GW519.out)) | (dsimp only; exact Nat.ne_of_lt (Nat.lt_of_lt_of_le (by have := World.block_lt_of_cell? _ _ hw509_5; first | rwa [add_block] at this | exact this) GW519.out))) _).trans (((cell_far (p := ⟨gb519, _, none⟩) (by first | exact Nat.ne_of_lt (Nat.lt_of_lt_of_le (by have := World.block_lt_of_cell? _ _ hw509_5; first | rwa [add_block] at this | exact this) GW519.out) | (rw [add_block]; exact Nat.ne_of_lt (Nat.lt_of_lt_of_le (by have := World.block_lt_of_cell? _ _ hw509_5; first | rwa [add_block] at this | exact this) GW519.out)) | (show (Addr.add _ _).block ≠ _; rw [add_block]; exact Nat.ne_of_lt (Nat.lt_of_lt_of_le (by have := World.block_lt_of_cell? _ _ hw509_5; first | rwa [add_block] at this | exact this) GW519.out)) | (dsimp only; exact Nat.ne_of_lt (Nat.lt_of_lt_of_le (by have := World.block_lt_of_cell? _ _ hw509_5; first | rwa [add_block] at this | exact this) GW519.out))) _).trans (((cell_far (p := ⟨gb519, _, none⟩) (by first | exact Nat.ne_of_lt (Nat.lt_of_lt_of_le (by have := World.block_lt_of_cell? _ _ hw509_5; first | rwa [add_block] at this | exact this) GW519.out) | (rw [add_block]; exact Nat.ne_of_lt (Nat.lt_of_lt_of_le (by have := World.block_lt_of_cell? _ _ hw509_5; first | rwa [add_block] at this | exact this) GW519.out)) | (show (Addr.add _ _).block ≠ _; rw [add_block]; exact Nat.ne_of_lt (Nat.lt_of_lt_of_le (by have := World.block_lt_of_cell? _ _ hw509_5; first | rwa [add_block] at this | exact this) GW519.out)) | (dsimp only; exact Nat.ne_of_lt (Nat.lt_of_lt_of_le (by have := World.block_lt_of_cell? _ _ hw509_5; first | rwa [add_block] at this | exact this) GW519.out))) _).trans (((cell_far (p := ⟨gb519, _, none⟩) (by first | exact Nat.ne_of_lt (Nat.lt_of_lt_of_le (by have := World.block_lt_of_cell? _ _ hw509_5; first | rwa [add_block] at this | exact this) GW519.out) | (rw [add_block]; exact Nat.ne_of_lt (Nat.lt_of_lt_of_le (by have := World.block_lt_of_cell? _ _ hw509_5; first | rwa [add_block] at this | exact this) GW519.out)) | (show (Addr.add _ _).block ≠ _; rw [add_block]; exact Nat.ne_of_lt (Nat.lt_of_lt_of_le (by have := World.block_lt_of_cell? _ _ hw509_5; first | rwa [add_block] at this | exact this) GW519.out)) | (dsimp only; exact Nat.ne_of_lt (Nat.lt_of_lt_of_le (by have := World.block_lt_of_cell? _ _ hw509_5; first | rwa [add_block] at this | exact this) GW519.out))) _).trans (hHeld.2.2.2.2.2))))))))))))⟩ (fun hHeld => ?_)
                    clear hK K
                    refine pure_ (i := 14) (N := some 7) (v := ?_) (a' := ?_) #[true, true, true, true, true, true, true, true, true, true, true, true, true, true, true] rfl rfl (any_of HT_.out (by kernel_rfl)) (fun _ _ _ h => h) (Or.inl ⟨by rfl, ?_⟩) ?_ ?_
                    rotate_left
                    · intro w'
                      go_simp
                      with_reducible rfl
                    rotate_left
                    · simp only [Act.put, List.setIfInBounds_toArray, List.set_cons_zero, List.set_cons_succ, i64_w, i32_w]
                      rfl
                    refine done_ (done_of HT_.out (by kernel_rfl)) ?_
                    try go_wp2
                    go_ret2
                    exact ⟨by first | rfl | (simp [errW_none, errW_some] <;> rfl) | (simp [*, errW_none, errW_some] <;> rfl) | (simp; (generalize ByteArray.toList _ = z_); cases z_ <;> rfl), by repeat (first | (with_reducible first | exact HB.out | apply below_alloc | apply pw_below_drewN | apply below_drew1 | refine below_set ?_ GE519.out) | exact HB.out)⟩
                  · replace c12 := Bool.eq_false_iff.mpr c12
                    subst c12
                    have H1 : (wicketref11_Print.l1 k2 l0 (wrap64 (x5_2 + 1))) = some (r1, r2) := by rw [if_neg (show ¬ (false = true) by decide)] at H; exact H
                    clear H
                    have H := H1
                    clear H1
                    have H' := Aside0.mk H
                    clear H
                    try go_wp2
                    have n0_ := Aside0.mk (below_drew1 HB.out)
                    clear HB
                    have HB := n0_
                    clear n0_
                    have q26 : (x5_2 : Int) ≤ ((l0.length : Int) : Int) := of_decide_eq_true (by first | (with_reducible assumption) | assumption)
                    obtain ⟨i026, hi026, _, hsz26, _⟩ := info_parts info43
                    have hroom26 : l0.length ≤ c0 := HC0.out
                    have hC26 : Kd.C k43 _ A0 l0.length l0 := HR0.out
                    have hcut26 := cut_to (P := Tryz.prog) 29 43 .i64 Tryz.underlying29 hi026 A0 l0.length c0 x5_2 (of_decide_eq_true (by first | (with_reducible assumption) | assumption)) q26 hroom26
                    have hr26 := Kd.C_take (m := (x5_2 : Int).toNat) hC26 (by omega)
                    have hy26 : y505.length = (x5_2 : Int).toNat := (by rw [Ny505.out, List.length_take]; omega)
                    rw [← Ny505.out] at hr26
                    rw [← hy26] at hcut26
                    have HR508 := Aside0.mk hr26
                    have HC508 := Aside0.mk (show y505.length ≤ c0 from by omega)
                    clear hr26 hC26 hroom26 hi026 hsz26
                    have KY26 := Aside0.mk hy26
                    clear hy26
                    replace q26 := eq_true q26
                    have p509 : 0 ≤ (x5_2 : Int) := of_decide_eq_true (by first | (with_reducible assumption) | assumption)
                    have q509 : x5_2 < (l0.length : Int) := of_decide_eq_true (by first | (with_reducible assumption) | assumption)
                    obtain ⟨ad509, A509_5, c509_5, e509, hx509_0, hx509_1, hx509_2, hx509_3, hx509_4, hx509_5, hl509_5, hi509_5⟩ := at_T43 HR0.out x5_2 p509 q509
                    have hw509_5 := hx509_5
                    have hw509_4 := hx509_4
                    have hw509_3 := hx509_3
                    have hw509_2 := hx509_2
                    have hw509_1 := hx509_1
                    have hw509_0 := hx509_0
                    cases e509
                    replace hx509_0 := (HB.out.cell (World.block_lt_of_cell? w _ hx509_0)).trans hx509_0
                    replace hx509_1 := (HB.out.cell (World.block_lt_of_cell? w _ hx509_1)).trans hx509_1
                    replace hx509_2 := (HB.out.cell (World.block_lt_of_cell? w _ hx509_2)).trans hx509_2
                    replace hx509_3 := (HB.out.cell (World.block_lt_of_cell? w _ hx509_3)).trans hx509_3
                    replace hx509_4 := (HB.out.cell (World.block_lt_of_cell? w _ hx509_4)).trans hx509_4
                    replace hx509_5 := (HB.out.cell (World.block_lt_of_cell? w _ hx509_5)).trans hx509_5
                    have HR509_5 := Aside0.mk hi509_5
                    have HC509_5 := Aside0.mk hl509_5
                    clear hi509_5 hl509_5
                    replace p509 := eq_true p509
                    replace q509 := eq_true q509
                    refine start_ (n := 15) (S := fun w' => w'.cell? (ad509.add ((x5_2).toNat * 6)) = some (.string ((rd_T43 l0 x5_2).f0)) ∧ w'.cell? ⟨(ad509.add ((x5_2).toNat * 6)).block, (ad509.add ((x5_2).toNat * 6)).off + 1, none⟩ = some (.string ((rd_T43 l0 x5_2).f1)) ∧ w'.cell? ⟨(ad509.add ((x5_2).toNat * 6)).block, (ad509.add ((x5_2).toNat * 6)).off + 2, none⟩ = some (.int .i64 ((rd_T43 l0 x5_2).f2)) ∧ w'.cell? ⟨(ad509.add ((x5_2).toNat * 6)).block, (ad509.add ((x5_2).toNat * 6)).off + 3, none⟩ = some (.bool ((rd_T43 l0 x5_2).f3)) ∧ w'.cell? ⟨(ad509.add ((x5_2).toNat * 6)).block, (ad509.add ((x5_2).toNat * 6)).off + 4, none⟩ = some (.string ((rd_T43 l0 x5_2).f4)) ∧ w'.cell? ⟨(ad509.add ((x5_2).toNat * 6)).block, (ad509.add ((x5_2).toNat * 6)).off + 5, none⟩ = some (.slice A509_5 ((rd_T43 l0 x5_2).f5).length c509_5)) (ds := []) #[false, false, false, false, false, false, false, false, false, false, false, false, false, false, false] (by kernel_rfl) rfl rfl ⟨((HB.out.cell (World.block_lt_of_cell? w _ hw509_0)).trans hw509_0), ((HB.out.cell (World.block_lt_of_cell? w _ hw509_1)).trans hw509_1), ((HB.out.cell (World.block_lt_of_cell? w _ hw509_2)).trans hw509_2), ((HB.out.cell (World.block_lt_of_cell? w _ hw509_3)).trans hw509_3), ((HB.out.cell (World.block_lt_of_cell? w _ hw509_4)).trans hw509_4), ((HB.out.cell (World.block_lt_of_cell? w _ hw509_5)).trans hw509_5)⟩ (fun hHeld => ?_); refine with_tabW wicketref11_Print.tab9 wicketref11_Print.bits9 (fun HT_ HW_ => ?_)
                    generalize wr.drew = w25 at HB HR508 HR509_5 hx509_0 hx509_1 hx509_2 hx509_3 hx509_4 hx509_5 hHeld ⊢
                    refine pure_ (i := 0) (N := some 29) (v := ?_) (a' := ?_) #[true, false, false, false, false, false, false, false, false, false, false, false, false, false, false] rfl rfl (any_of HT_.out (by kernel_rfl)) (fun _ _ _ h => h) (Or.inl ⟨by rfl, ?_⟩) ?_ ?_
                    rotate_left
                    · intro w'
                      go_simp
                      with_reducible rfl
                    rotate_left
                    · simp only [Act.put, List.setIfInBounds_toArray, List.set_cons_zero, List.set_cons_succ, i64_w, i32_w]
                      rfl
                    refine pure_ (i := 1) (N := some 30) (v := ?_) (a' := ?_) #[true, true, false, false, false, false, false, false, false, false, false, false, false, false, false] rfl rfl (any_of HT_.out (by kernel_rfl)) (fun _ _ _ h => h) (Or.inl ⟨by rfl, ?_⟩) ?_ ?_
                    rotate_left
                    · intro w'
                      go_simp
                      with_reducible rfl
                    rotate_left
                    · simp only [Act.put, List.setIfInBounds_toArray, List.set_cons_zero, List.set_cons_succ, i64_w, i32_w]
                      rfl
                    refine pure_ (i := 2) (N := some 31) (v := ?_) (a' := ?_) #[true, true, true, false, false, false, false, false, false, false, false, false, false, false, false] rfl rfl (any_of HT_.out (by kernel_rfl)) (fun _ _ _ h => h) (Or.inl ⟨by rfl, ?_⟩) ?_ ?_
                    rotate_left
                    · intro w'
                      go_simp
                      with_reducible rfl
                    rotate_left
                    · simp only [Act.put, List.setIfInBounds_toArray, List.set_cons_zero, List.set_cons_succ, i64_w, i32_w]
                      rfl
                    refine pure_ (i := 3) (N := some 32) (v := ?_) (a' := ?_) #[true, true, true, true, false, false, false, false, false, false, false, false, false, false, false] rfl rfl (any_of HT_.out (by kernel_rfl)) (fun _ _ _ h => h) (Or.inl ⟨by rfl, ?_⟩) ?_ ?_
                    rotate_left
                    · intro w'
                      go_simp
                      with_reducible rfl
                    rotate_left
                    · simp only [Act.put, List.setIfInBounds_toArray, List.set_cons_zero, List.set_cons_succ, i64_w, i32_w]
                      rfl
                    refine pure_ (i := 4) (N := some 33) (v := ?_) (a' := ?_) #[true, true, true, true, true, false, false, false, false, false, false, false, false, false, false] rfl rfl (any_of HT_.out (by kernel_rfl)) (fun _ _ _ h => h) (Or.inl ⟨by rfl, ?_⟩) ?_ ?_
                    rotate_left
                    · intro w'
                      go_simp
                      with_reducible rfl
                    rotate_left
                    · simp only [Act.put, List.setIfInBounds_toArray, List.set_cons_zero, List.set_cons_succ, i64_w, i32_w]
                      rfl
                    refine pure_ (i := 5) (N := some 34) (v := ?_) (a' := ?_) #[true, true, true, true, true, true, false, false, false, false, false, false, false, false, false] rfl rfl (any_of HT_.out (by kernel_rfl)) (fun _ _ _ h => h) (Or.inl ⟨by rfl, ?_⟩) ?_ ?_
                    rotate_left
                    · intro w'
                      go_simp
                      with_reducible rfl
                    rotate_left
                    · simp only [Act.put, List.setIfInBounds_toArray, List.set_cons_zero, List.set_cons_succ, i64_w, i32_w]
                      rfl
                    refine pure_ (i := 6) (N := some 35) (v := ?_) (a' := ?_) #[true, true, true, true, true, true, true, false, false, false, false, false, false, false, false] rfl rfl (any_of HT_.out (by kernel_rfl)) (fun _ _ _ h => h) (Or.inl ⟨by rfl, ?_⟩) ?_ ?_
                    rotate_left
                    · intro w'
                      go_simp
                      with_reducible rfl
                    rotate_left
                    · simp only [Act.put, List.setIfInBounds_toArray, List.set_cons_zero, List.set_cons_succ, i64_w, i32_w]
                      rfl
                    refine take_ (i := 7) (N := some 36) (v := ?_) (a' := ?_) #[true, true, true, true, true, true, true, true, false, false, false, false, false, false, false] rfl rfl (take_ofW HT_.out HW_.out (by kernel_rfl)) (fun _ _ _ h => h) (Or.inl ⟨by rfl, ?_⟩) hHeld ?_ ?_
                    rotate_left
                    · rintro w' ⟨s0, s1, s2, s3, s4, s5⟩
                      go_simp
                      with_reducible rfl
                    rotate_left
                    · simp only [Act.put, List.setIfInBounds_toArray, List.set_cons_zero, List.set_cons_succ, i64_w, i32_w]
                      rfl
                    refine join_ (σ := Value × Nat) 2 #[true, true, true, true, true, true, true, true, true, true, true, true, true, false, false] (fun s_ => [(37, .tuple #[.agg #[.string t510, .string t511, .int .i64 t512, .bool t513, .string t514, s_.1], .bool false]), (6, .pointer (some ⟨s_.2, 0, none⟩)), (28, .tuple #[.agg #[.string t510, .string t511, .int .i64 t512, .bool t513, .string t514, s_.1], .bool false]), (38, .agg #[.string t510, .string t511, .int .i64 t512, .bool t513, .string t514, s_.1]), (39, .bool false)]) (fun s_ w' => (w'.cell? (ad509.add ((x5_2).toNat * 6)) = some (.string ((rd_T43 l0 x5_2).f0)) ∧ w'.cell? ⟨(ad509.add ((x5_2).toNat * 6)).block, (ad509.add ((x5_2).toNat * 6)).off + 1, none⟩ = some (.string ((rd_T43 l0 x5_2).f1)) ∧ w'.cell? ⟨(ad509.add ((x5_2).toNat * 6)).block, (ad509.add ((x5_2).toNat * 6)).off + 2, none⟩ = some (.int .i64 ((rd_T43 l0 x5_2).f2)) ∧ w'.cell? ⟨(ad509.add ((x5_2).toNat * 6)).block, (ad509.add ((x5_2).toNat * 6)).off + 3, none⟩ = some (.bool ((rd_T43 l0 x5_2).f3)) ∧ w'.cell? ⟨(ad509.add ((x5_2).toNat * 6)).block, (ad509.add ((x5_2).toNat * 6)).off + 4, none⟩ = some (.string ((rd_T43 l0 x5_2).f4)) ∧ w'.cell? ⟨(ad509.add ((x5_2).toNat * 6)).block, (ad509.add ((x5_2).toNat * 6)).off + 5, none⟩ = some (.slice A509_5 ((rd_T43 l0 x5_2).f5).length c509_5)) ∧ (Kd.V Kd.string 9 w' w.heap.size (fun k_ => k_ ≠ s_.2) s_.1 t515) ∧ (w'.heap[s_.2]? = some (.cells #[.string (⟨#[]⟩ : ByteArray), .string (⟨#[]⟩ : ByteArray), .int .i64 0, .bool false, .string (⟨#[]⟩ : ByteArray), .slice none 0 0] 43 (0, 0))) ∧ (w.heap.size ≤ s_.2) ∧ (w.heap.size ≤ s_.2) ∧ (Below w.heap.size w w')) ?_ ?_
                    rotate_left
                    · intro hCont
                      refine two_ (i := 8) (j := 12) (Ni := some 37) (Nj := some 6) #[true, true, true, true, true, true, true, true, true, false, false, false, false, false, false] #[true, true, true, true, true, true, true, true, false, false, false, false, true, false, false] rfl rfl rfl rfl (two_of HT_.out (by kernel_rfl)) (by decide) (by decide) (fun K hK => ?_) (fun K hK => ?_)
                      · skip
                        refine goes_ Tryz.func30 (by kernel_rfl) rfl #[.slice (some ad509) y505.length c0, .string ((rd_T43 l0 x5_2).f0)] (by rfl) rfl rfl (by (try simp only [List.map_toArray, List.map_cons, List.map_nil]); first | done | rfl | (simp only [List.length_drop, List.length_take]; rfl)) ?_
                        with_reducible refine (wicketref11_Find.calls k2 (fun k_ => k_ < w.heap.size) _ _ y505 ((rd_T43 l0 x5_2).f0) t510 t511 t512 t513 t514 t515 false _ ?side1 A11.out).mono ?_
                        (case side1 => exact Kd.V_mk HC508.out (Kd.F_below (Kd.C_F k43_heap HR508.out) (by repeat (first | (with_reducible first | exact HB.out | apply below_alloc | apply pw_below_drewN | apply below_drew1) | exact HB.out))))
                        rintro e w27 ⟨v516, rfl, ho0, hb⟩
                        refine ⟨_, rfl, ?_⟩
                        have n0_ := Aside0.mk (Kd.V_lower (Kd.V_mono (ok' := fun k_ => True) ho0 (fun k_ hk_ => trivial)) (below_size (by repeat (first | (with_reducible first | exact HB.out | apply below_alloc | apply pw_below_drewN | apply below_drew1) | exact HB.out))))
                        have n1_ := Aside0.mk (below_step (by repeat (first | (with_reducible first | exact HB.out | apply below_alloc | apply pw_below_drewN | apply below_drew1) | exact HB.out)) hb)
                        clear HB
                        have HO517 := n0_
                        have HB := n1_
                        clear n0_ n1_
                        (try clear hb)
                        (try clear hb2)
                        (try clear hk)
                        (try clear hi)
                        (try clear ho0)
                        refine hK.out _ _ ⟨((HB.out.cell (World.block_lt_of_cell? w _ hw509_0)).trans hw509_0), ((HB.out.cell (World.block_lt_of_cell? w _ hw509_1)).trans hw509_1), ((HB.out.cell (World.block_lt_of_cell? w _ hw509_2)).trans hw509_2), ((HB.out.cell (World.block_lt_of_cell? w _ hw509_3)).trans hw509_3), ((HB.out.cell (World.block_lt_of_cell? w _ hw509_4)).trans hw509_4), ((HB.out.cell (World.block_lt_of_cell? w _ hw509_5)).trans hw509_5)⟩ (fun hHeld => ?_)
                        clear hK K
                        refine norm_ (a' := ?_) ?_ ?_
                        rotate_left
                        · show Act.put _ (some 37) _ = _
                          simp only [Act.put, List.setIfInBounds_toArray, List.set_cons_zero, List.set_cons_succ, i64_w, i32_w]
                          rfl
                        refine pure_ (i := 9) (N := some 28) (v := ?_) (a' := ?_) #[true, true, true, true, true, true, true, true, true, true, false, false, false, false, false] rfl rfl (any_of HT_.out (by kernel_rfl)) (fun _ _ _ h => h) (Or.inl ⟨by rfl, ?_⟩) ?_ ?_
                        rotate_left
                        · intro w'
                          go_simp
                          with_reducible rfl
                        rotate_left
                        · simp only [Act.put, List.setIfInBounds_toArray, List.set_cons_zero, List.set_cons_succ, i64_w, i32_w]
                          rfl
                        refine pure_ (i := 10) (N := some 38) (v := ?_) (a' := ?_) #[true, true, true, true, true, true, true, true, true, true, true, false, false, false, false] rfl rfl (any_of HT_.out (by kernel_rfl)) (fun _ _ _ h => h) (Or.inl ⟨by rfl, ?_⟩) ?_ ?_
                        rotate_left
                        · intro w'
                          go_simp
                          with_reducible rfl
                        rotate_left
                        · simp only [Act.put, List.setIfInBounds_toArray, List.set_cons_zero, List.set_cons_succ, i64_w, i32_w]
                          rfl
                        refine pure_ (i := 11) (N := some 39) (v := ?_) (a' := ?_) #[true, true, true, true, true, true, true, true, true, true, true, true, false, false, false] rfl rfl (any_of HT_.out (by kernel_rfl)) (fun _ _ _ h => h) (Or.inl ⟨by rfl, ?_⟩) ?_ ?_
                        rotate_left
                        · intro w'
                          go_simp
                          with_reducible rfl
                        rotate_left
                        · simp only [Act.put, List.setIfInBounds_toArray, List.set_cons_zero, List.set_cons_succ, i64_w, i32_w]
                          rfl
                        refine one_ (i := 12) (N := some 6) #[true, true, true, true, true, true, true, true, true, true, true, true, true, false, false] rfl rfl (one_of HT_.out (by kernel_rfl)) (by decide) (fun K hK => ?_)
                        refine box_step ?hg (N := 6) ?hd (cs := #[.string (⟨#[]⟩ : ByteArray), .string (⟨#[]⟩ : ByteArray), .int .i64 0, .bool false, .string (⟨#[]⟩ : ByteArray), .slice none 0 0]) (t := 43) ?hr ?_; (case hd => rfl); (case hg => rfl); (case hr => first | (go_simp; done) | (go_simp; rfl))
                        intro gb519 hg w28 hbox hb
                        have n0_ := Aside0.mk (Kd.V_below (Kd.V_elderB (by (with_reducible repeat (first | apply Kd.V_alloc | apply Kd.V_drewN | apply Kd.V_drew)); exact HO517.out) gb519 (Nat.le_of_eq hg.symm)) hb)
                        have n1_ := Aside0.mk (below_step (by repeat (first | (with_reducible first | exact HB.out | apply below_alloc | apply pw_below_drewN | apply below_drew1) | exact HB.out)) hb)
                        have n2_ := Aside0.mk (hbox)
                        have n3_ := Aside0.mk ((by rw [hg]; exact (below_size (by repeat (first | (with_reducible first | exact HB.out | apply below_alloc | apply pw_below_drewN | apply below_drew1) | exact HB.out))) : w.heap.size ≤ gb519))
                        have n4_ := Aside0.mk ((by rw [hg]; exact (below_size (by repeat (first | (with_reducible first | exact HB.out | apply below_alloc | apply pw_below_drewN | apply below_drew1) | exact HB.out))) : w.heap.size ≤ gb519))
                        clear HO517
                        clear HB
                        have HO517 := n0_
                        have HB := n1_
                        have BK519 := n2_
                        have GW519 := n3_
                        have GE519 := n4_
                        clear n0_ n1_ n2_ n3_ n4_
                        clear hb hbox hg
                        refine hK.out _ _ ⟨((HB.out.cell (World.block_lt_of_cell? w _ hw509_0)).trans hw509_0), ((HB.out.cell (World.block_lt_of_cell? w _ hw509_1)).trans hw509_1), ((HB.out.cell (World.block_lt_of_cell? w _ hw509_2)).trans hw509_2), ((HB.out.cell (World.block_lt_of_cell? w _ hw509_3)).trans hw509_3), ((HB.out.cell (World.block_lt_of_cell? w _ hw509_4)).trans hw509_4), ((HB.out.cell (World.block_lt_of_cell? w _ hw509_5)).trans hw509_5)⟩ (fun hHeld => ?_)
                        clear hK K
                        refine norm_ (a' := ?_) ?_ ?_
                        rotate_left
                        · show Act.put _ (some 6) _ = _
                          simp only [Act.put, List.setIfInBounds_toArray, List.set_cons_zero, List.set_cons_succ, i64_w, i32_w]
                          rfl
                        exact norm_ (by simp only [putAll, Act.put, List.setIfInBounds_toArray, List.set_cons_zero, List.set_cons_succ]) (hCont (v516, gb519) _ ⟨hHeld, (by (with_reducible repeat (first | apply Kd.V_alloc | apply Kd.V_drewN | apply Kd.V_drew)); exact Kd.V_mono HO517.out (fun _ hk => hk.2)), (by (with_reducible repeat (first | refine blk_drewN ?_ _ | refine blk_drew ?_ | refine blk_alloc ?_ _)); exact BK519.out), GW519.out, GE519.out, (by repeat (first | (with_reducible first | exact HB.out | apply below_alloc | apply pw_below_drewN | apply below_drew1 | refine below_set ?_ GE519.out) | exact HB.out))⟩)
                      · skip
                        refine box_step ?hg (N := 6) ?hd (cs := #[.string (⟨#[]⟩ : ByteArray), .string (⟨#[]⟩ : ByteArray), .int .i64 0, .bool false, .string (⟨#[]⟩ : ByteArray), .slice none 0 0]) (t := 43) ?hr ?_; (case hd => rfl); (case hg => rfl); (case hr => first | (go_simp; done) | (go_simp; rfl))
                        intro gb519 hg w27 hbox hb
                        have n0_ := Aside0.mk (below_step (by repeat (first | (with_reducible first | exact HB.out | apply below_alloc | apply pw_below_drewN | apply below_drew1) | exact HB.out)) hb)
                        have n1_ := Aside0.mk (hbox)
                        have n2_ := Aside0.mk ((by rw [hg]; exact (below_size (by repeat (first | (with_reducible first | exact HB.out | apply below_alloc | apply pw_below_drewN | apply below_drew1) | exact HB.out))) : w.heap.size ≤ gb519))
                        have n3_ := Aside0.mk ((by rw [hg]; exact (below_size (by repeat (first | (with_reducible first | exact HB.out | apply below_alloc | apply pw_below_drewN | apply below_drew1) | exact HB.out))) : w.heap.size ≤ gb519))
                        clear HB
                        have HB := n0_
                        have BK519 := n1_
                        have GW519 := n2_
                        have GE519 := n3_
                        clear n0_ n1_ n2_ n3_
                        clear hb hbox hg
                        refine hK.out _ _ ⟨((HB.out.cell (World.block_lt_of_cell? w _ hw509_0)).trans hw509_0), ((HB.out.cell (World.block_lt_of_cell? w _ hw509_1)).trans hw509_1), ((HB.out.cell (World.block_lt_of_cell? w _ hw509_2)).trans hw509_2), ((HB.out.cell (World.block_lt_of_cell? w _ hw509_3)).trans hw509_3), ((HB.out.cell (World.block_lt_of_cell? w _ hw509_4)).trans hw509_4), ((HB.out.cell (World.block_lt_of_cell? w _ hw509_5)).trans hw509_5)⟩ (fun hHeld => ?_)
                        clear hK K
                        refine norm_ (a' := ?_) ?_ ?_
                        rotate_left
                        · show Act.put _ (some 6) _ = _
                          simp only [Act.put, List.setIfInBounds_toArray, List.set_cons_zero, List.set_cons_succ, i64_w, i32_w]
                          rfl
                        refine one_ (i := 8) (N := some 37) #[true, true, true, true, true, true, true, true, true, false, false, false, true, false, false] rfl rfl (one_of HT_.out (by kernel_rfl)) (by decide) (fun K hK => ?_)
                        refine goes_ Tryz.func30 (by kernel_rfl) rfl #[.slice (some ad509) y505.length c0, .string ((rd_T43 l0 x5_2).f0)] (by rfl) rfl rfl (by (try simp only [List.map_toArray, List.map_cons, List.map_nil]); first | done | rfl | (simp only [List.length_drop, List.length_take]; rfl)) ?_
                        with_reducible refine (wicketref11_Find.calls k2 (fun k_ => k_ < w.heap.size) _ _ y505 ((rd_T43 l0 x5_2).f0) t510 t511 t512 t513 t514 t515 false _ ?side1 A11.out).mono ?_
                        (case side1 => exact Kd.V_mk HC508.out (Kd.F_below (Kd.C_F k43_heap HR508.out) (by repeat (first | (with_reducible first | exact HB.out | apply below_alloc | apply pw_below_drewN | apply below_drew1 | refine below_set ?_ GE519.out) | exact HB.out))))
                        rintro e w28 ⟨v516, rfl, ho0, hb⟩
                        refine ⟨_, rfl, ?_⟩
                        have n0_ := Aside0.mk (Kd.V_lower (Kd.V_mono (ok' := fun k_ => k_ ≠ gb519) ho0 (fun k_ hk_ => Or.elim hk_ (fun hs_ => fun e_ => Nat.not_le.2 hs_ (by rw [e_]; exact GW519.out)) (fun hn_ => (Kd.freshB (g := gb519) (o := .cells #[.string (⟨#[]⟩ : ByteArray), .string (⟨#[]⟩ : ByteArray), .int .i64 0, .bool false, .string (⟨#[]⟩ : ByteArray), .slice none 0 0] 43 (0, 0)) (by (with_reducible repeat (first | refine blk_drewN ?_ _ | refine blk_drew ?_ | refine blk_alloc ?_ _)); exact BK519.out) k_ hn_)))) (below_size (by repeat (first | (with_reducible first | exact HB.out | apply below_alloc | apply pw_below_drewN | apply below_drew1 | refine below_set ?_ GE519.out) | exact HB.out))))
                        have n1_ := Aside0.mk (blk_below (g := gb519) (o := .cells #[.string (⟨#[]⟩ : ByteArray), .string (⟨#[]⟩ : ByteArray), .int .i64 0, .bool false, .string (⟨#[]⟩ : ByteArray), .slice none 0 0] 43 (0, 0)) (by (with_reducible repeat (first | refine blk_drewN ?_ _ | refine blk_drew ?_ | refine blk_alloc ?_ _)); exact BK519.out) hb)
                        have n2_ := Aside0.mk (below_step (by repeat (first | (with_reducible first | exact HB.out | apply below_alloc | apply pw_below_drewN | apply below_drew1 | refine below_set ?_ GE519.out) | exact HB.out)) hb)
                        clear BK519
                        clear HB
                        have HO517 := n0_
                        have BK519 := n1_
                        have HB := n2_
                        clear n0_ n1_ n2_
                        (try clear hb)
                        (try clear hb2)
                        (try clear hk)
                        (try clear hi)
                        (try clear ho0)
                        refine hK.out _ _ ⟨((HB.out.cell (World.block_lt_of_cell? w _ hw509_0)).trans hw509_0), ((HB.out.cell (World.block_lt_of_cell? w _ hw509_1)).trans hw509_1), ((HB.out.cell (World.block_lt_of_cell? w _ hw509_2)).trans hw509_2), ((HB.out.cell (World.block_lt_of_cell? w _ hw509_3)).trans hw509_3), ((HB.out.cell (World.block_lt_of_cell? w _ hw509_4)).trans hw509_4), ((HB.out.cell (World.block_lt_of_cell? w _ hw509_5)).trans hw509_5)⟩ (fun hHeld => ?_)
                        clear hK K
                        refine norm_ (a' := ?_) ?_ ?_
                        rotate_left
                        · show Act.put _ (some 37) _ = _
                          simp only [Act.put, List.setIfInBounds_toArray, List.set_cons_zero, List.set_cons_succ, i64_w, i32_w]
                          rfl
                        refine pure_ (i := 9) (N := some 28) (v := ?_) (a' := ?_) #[true, true, true, true, true, true, true, true, true, true, false, false, true, false, false] rfl rfl (any_of HT_.out (by kernel_rfl)) (fun _ _ _ h => h) (Or.inl ⟨by rfl, ?_⟩) ?_ ?_
                        rotate_left
                        · intro w'
                          go_simp
                          with_reducible rfl
                        rotate_left
                        · simp only [Act.put, List.setIfInBounds_toArray, List.set_cons_zero, List.set_cons_succ, i64_w, i32_w]
                          rfl
                        refine pure_ (i := 10) (N := some 38) (v := ?_) (a' := ?_) #[true, true, true, true, true, true, true, true, true, true, true, false, true, false, false] rfl rfl (any_of HT_.out (by kernel_rfl)) (fun _ _ _ h => h) (Or.inl ⟨by rfl, ?_⟩) ?_ ?_
                        rotate_left
                        · intro w'
                          go_simp
                          with_reducible rfl
                        rotate_left
                        · simp only [Act.put, List.setIfInBounds_toArray, List.set_cons_zero, List.set_cons_succ, i64_w, i32_w]
                          rfl
                        refine pure_ (i := 11) (N := some 39) (v := ?_) (a' := ?_) #[true, true, true, true, true, true, true, true, true, true, true, true, true, false, false] rfl rfl (any_of HT_.out (by kernel_rfl)) (fun _ _ _ h => h) (Or.inl ⟨by rfl, ?_⟩) ?_ ?_
                        rotate_left
                        · intro w'
                          go_simp
                          with_reducible rfl
                        rotate_left
                        · simp only [Act.put, List.setIfInBounds_toArray, List.set_cons_zero, List.set_cons_succ, i64_w, i32_w]
                          rfl
                        exact norm_ (by simp only [putAll, Act.put, List.setIfInBounds_toArray, List.set_cons_zero, List.set_cons_succ]) (hCont (v516, gb519) _ ⟨hHeld, (by (with_reducible repeat (first | apply Kd.V_alloc | apply Kd.V_drewN | apply Kd.V_drew)); exact HO517.out), (by (with_reducible repeat (first | refine blk_drewN ?_ _ | refine blk_drew ?_ | refine blk_alloc ?_ _)); exact BK519.out), GW519.out, GE519.out, (by repeat (first | (with_reducible first | exact HB.out | apply below_alloc | apply pw_below_drewN | apply below_drew1 | refine below_set ?_ GE519.out) | exact HB.out))⟩)
                    rintro ⟨v516, gb519⟩ w29 ⟨hS_, h0_, h1_, h2_, h3_, h4_⟩
                    have n0_ : Aside0 (Kd.V Kd.string 9 w29 w.heap.size (fun k_ => k_ ≠ gb519) v516 t515) := ⟨h0_⟩
                    have n1_ : Aside0 (w29.heap[gb519]? = some (.cells #[.string (⟨#[]⟩ : ByteArray), .string (⟨#[]⟩ : ByteArray), .int .i64 0, .bool false, .string (⟨#[]⟩ : ByteArray), .slice none 0 0] 43 (0, 0))) := ⟨h1_⟩
                    have n2_ : Aside0 (w.heap.size ≤ gb519) := ⟨h2_⟩
                    have n3_ : Aside0 (w.heap.size ≤ gb519) := ⟨h3_⟩
                    have n4_ : Aside0 (Below w.heap.size w w29) := ⟨h4_⟩
                    clear HB
                    clear h0_ h1_ h2_ h3_ h4_
                    have HO517 := n0_
                    have BK519 := n1_
                    have GW519 := n2_
                    have GE519 := n3_
                    have HB := n4_
                    clear n0_ n1_ n2_ n3_ n4_
                    have hHeld : w29.cell? (ad509.add ((x5_2).toNat * 6)) = some (.string ((rd_T43 l0 x5_2).f0)) ∧ w29.cell? ⟨(ad509.add ((x5_2).toNat * 6)).block, (ad509.add ((x5_2).toNat * 6)).off + 1, none⟩ = some (.string ((rd_T43 l0 x5_2).f1)) ∧ w29.cell? ⟨(ad509.add ((x5_2).toNat * 6)).block, (ad509.add ((x5_2).toNat * 6)).off + 2, none⟩ = some (.int .i64 ((rd_T43 l0 x5_2).f2)) ∧ w29.cell? ⟨(ad509.add ((x5_2).toNat * 6)).block, (ad509.add ((x5_2).toNat * 6)).off + 3, none⟩ = some (.bool ((rd_T43 l0 x5_2).f3)) ∧ w29.cell? ⟨(ad509.add ((x5_2).toNat * 6)).block, (ad509.add ((x5_2).toNat * 6)).off + 4, none⟩ = some (.string ((rd_T43 l0 x5_2).f4)) ∧ w29.cell? ⟨(ad509.add ((x5_2).toNat * 6)).block, (ad509.add ((x5_2).toNat * 6)).off + 5, none⟩ = some (.slice A509_5 ((rd_T43 l0 x5_2).f5).length c509_5) := hS_
                    obtain ⟨Ao35, co35, eo35⟩ := Kd.V_slice HO517.out
                    (first | subst eo35 | (injection eo35 with f1_ f2_ f3_; have f4_ := f1_.symm; have f5_ := f3_.symm; clear f1_ f2_ f3_; subst f4_; subst f5_))
                    refine norm_ (a' := ?_) ?_ ?_
                    rotate_left
                    · simp only [putAll, Act.put, List.setIfInBounds_toArray, List.set_cons_zero, List.set_cons_succ]
                      rfl
                    refine one_ (i := 13) (N := none) #[true, true, true, true, true, true, true, true, true, true, true, true, true, true, false] rfl rfl (one_of HT_.out (by kernel_rfl)) (by decide) (fun K hK => ?_)
                    have hs30 : w29.cell? ⟨gb519, 0, none⟩ = some (.string (⟨#[]⟩ : ByteArray)) := (blk_cell BK519.out 0).trans rfl
                    have hfs30 := blk_frozen BK519.out 0
                    have hs31 : w29.cell? ⟨gb519, 1, none⟩ = some (.string (⟨#[]⟩ : ByteArray)) := (blk_cell BK519.out 1).trans rfl
                    have hfs31 := blk_frozen BK519.out 1
                    have hs32 : w29.cell? ⟨gb519, 2, none⟩ = some (.int .i64 0) := (blk_cell BK519.out 2).trans rfl
                    have hfs32 := blk_frozen BK519.out 2
                    have hs33 : w29.cell? ⟨gb519, 3, none⟩ = some (.bool false) := (blk_cell BK519.out 3).trans rfl
                    have hfs33 := blk_frozen BK519.out 3
                    have hs34 : w29.cell? ⟨gb519, 4, none⟩ = some (.string (⟨#[]⟩ : ByteArray)) := (blk_cell BK519.out 4).trans rfl
                    have hfs34 := blk_frozen BK519.out 4
                    have hs36 : w29.cell? ⟨gb519, 5, none⟩ = some (.slice none 0 0) := (blk_cell BK519.out 5).trans rfl
                    have hfs36 := blk_frozen BK519.out 5
                    refine skip_ (w1 := ?_) (by rfl) rfl ?_ ?_
                    rotate_left
                    · go_simp
                      rfl
                    refine hK.out _ _ ⟨((cell_far (p := ⟨gb519, _, none⟩) (by first | exact Nat.ne_of_lt (Nat.lt_of_lt_of_le (by have := World.block_lt_of_cell? _ _ hw509_0; first | rwa [add_block] at this | exact this) GW519.out) | (rw [add_block]; exact Nat.ne_of_lt (Nat.lt_of_lt_of_le (by have := World.block_lt_of_cell? _ _ hw509_0; first | rwa [add_block] at this | exact this) GW519.out)) | (show (Addr.add _ _).block ≠ _; rw [add_block]; exact Nat.ne_of_lt (Nat.lt_of_lt_of_le (by have := World.block_lt_of_cell? _ _ hw509_0; first | rwa [add_block] at this | exact this) GW519.out)) | (dsimp only; exact Nat.ne_of_lt (Nat.lt_of_lt_of_le (by have := World.block_lt_of_cell? _ _ hw509_0; first | rwa [add_block] at this | exact this) GW519.out))) _).trans (((cell_far (p := ⟨gb519, _, none⟩) (by first | exact Nat.ne_of_lt (Nat.lt_of_lt_of_le (by have := World.block_lt_of_cell? _ _ hw509_0; first | rwa [add_block] at this | exact this) GW519.out) | (rw [add_block]; exact Nat.ne_of_lt (Nat.lt_of_lt_of_le (by have := World.block_lt_of_cell? _ _ hw509_0; first | rwa [add_block] at this | exact this) GW519.out)) | (show (Addr.add _ _).block ≠ _; rw [add_block]; exact Nat.ne_of_lt (Nat.lt_of_lt_of_le (by have := World.block_lt_of_cell? _ _ hw509_0; first | rwa [add_block] at this | exact this) GW519.out)) | (dsimp only; exact Nat.ne_of_lt (Nat.lt_of_lt_of_le (by have := World.block_lt_of_cell? _ _ hw509_0; first | rwa [add_block] at this | exact this) GW519.out))) _).trans (((cell_far (p := ⟨gb519, _, none⟩) (by first | exact Nat.ne_of_lt (Nat.lt_of_lt_of_le (by have := World.block_lt_of_cell? _ _ hw509_0; first | rwa [add_block] at this | exact this) GW519.out) | (rw [add_block]; exact Nat.ne_of_lt (Nat.lt_of_lt_of_le (by have := World.block_lt_of_cell? _ _ hw509_0; first | rwa [add_block] at this | exact this) GW519.out)) | (show (Addr.add _ _).block ≠ _; rw [add_block]; exact Nat.ne_of_lt (Nat.lt_of_lt_of_le (by have := World.block_lt_of_cell? _ _ hw509_0; first | rwa [add_block] at this | exact this) GW519.out)) | (dsimp only; exact Nat.ne_of_lt (Nat.lt_of_lt_of_le (by have := World.block_lt_of_cell? _ _ hw509_0; first | rwa [add_block] at this | exact this) GW519.out))) _).trans (((cell_far (p := ⟨gb519, _, none⟩) (by first | exact Nat.ne_of_lt (Nat.lt_of_lt_of_le (by have := World.block_lt_of_cell? _ _ hw509_0; first | rwa [add_block] at this | exact this) GW519.out) | (rw [add_block]; exact Nat.ne_of_lt (Nat.lt_of_lt_of_le (by have := World.block_lt_of_cell? _ _ hw509_0; first | rwa [add_block] at this | exact this) GW519.out)) | (show (Addr.add _ _).block ≠ _; rw [add_block]; exact Nat.ne_of_lt (Nat.lt_of_lt_of_le (by have := World.block_lt_of_cell? _ _ hw509_0; first | rwa [add_block] at this | exact this) GW519.out)) | (dsimp only; exact Nat.ne_of_lt (Nat.lt_of_lt_of_le (by have := World.block_lt_of_cell? _ _ hw509_0; first | rwa [add_block] at this | exact this) GW519.out))) _).trans (((cell_far (p := ⟨gb519, _, none⟩) (by first | exact Nat.ne_of_lt (Nat.lt_of_lt_of_le (by have := World.block_lt_of_cell? _ _ hw509_0; first | rwa [add_block] at this | exact this) GW519.out) | (rw [add_block]; exact Nat.ne_of_lt (Nat.lt_of_lt_of_le (by have := World.block_lt_of_cell? _ _ hw509_0; first | rwa [add_block] at this | exact this) GW519.out)) | (show (Addr.add _ _).block ≠ _; rw [add_block]; exact Nat.ne_of_lt (Nat.lt_of_lt_of_le (by have := World.block_lt_of_cell? _ _ hw509_0; first | rwa [add_block] at this | exact this) GW519.out)) | (dsimp only; exact Nat.ne_of_lt (Nat.lt_of_lt_of_le (by have := World.block_lt_of_cell? _ _ hw509_0; first | rwa [add_block] at this | exact this) GW519.out))) _).trans (((cell_far (p := ⟨gb519, _, none⟩) (by first | exact Nat.ne_of_lt (Nat.lt_of_lt_of_le (by have := World.block_lt_of_cell? _ _ hw509_0; first | rwa [add_block] at this | exact this) GW519.out) | (rw [add_block]; exact Nat.ne_of_lt (Nat.lt_of_lt_of_le (by have := World.block_lt_of_cell? _ _ hw509_0; first | rwa [add_block] at this | exact this) GW519.out)) | (show (Addr.add _ _).block ≠ _; rw [add_block]; exact Nat.ne_of_lt (Nat.lt_of_lt_of_le (by have := World.block_lt_of_cell? _ _ hw509_0; first | rwa [add_block] at this | exact this) GW519.out)) | (dsimp only; exact Nat.ne_of_lt (Nat.lt_of_lt_of_le (by have := World.block_lt_of_cell? _ _ hw509_0; first | rwa [add_block] at this | exact this) GW519.out))) _).trans (hHeld.1)))))))))))), ((cell_far (p := ⟨gb519, _, none⟩) (by first | exact Nat.ne_of_lt (Nat.lt_of_lt_of_le (by have := World.block_lt_of_cell? _ _ hw509_1; first | rwa [add_block] at this | exact this) GW519.out) | (rw [add_block]; exact Nat.ne_of_lt (Nat.lt_of_lt_of_le (by have := World.block_lt_of_cell? _ _ hw509_1; first | rwa [add_block] at this | exact this) GW519.out)) | (show (Addr.add _ _).block ≠ _; rw [add_block]; exact Nat.ne_of_lt (Nat.lt_of_lt_of_le (by have := World.block_lt_of_cell? _ _ hw509_1; first | rwa [add_block] at this | exact this) GW519.out)) | (dsimp only; exact Nat.ne_of_lt (Nat.lt_of_lt_of_le (by have := World.block_lt_of_cell? _ _ hw509_1; first | rwa [add_block] at this | exact this) GW519.out))) _).trans (((cell_far (p := ⟨gb519, _, none⟩) (by first | exact Nat.ne_of_lt (Nat.lt_of_lt_of_le (by have := World.block_lt_of_cell? _ _ hw509_1; first | rwa [add_block] at this | exact this) GW519.out) | (rw [add_block]; exact Nat.ne_of_lt (Nat.lt_of_lt_of_le (by have := World.block_lt_of_cell? _ _ hw509_1; first | rwa [add_block] at this | exact this) GW519.out)) | (show (Addr.add _ _).block ≠ _; rw [add_block]; exact Nat.ne_of_lt (Nat.lt_of_lt_of_le (by have := World.block_lt_of_cell? _ _ hw509_1; first | rwa [add_block] at this | exact this) GW519.out)) | (dsimp only; exact Nat.ne_of_lt (Nat.lt_of_lt_of_le (by have := World.block_lt_of_cell? _ _ hw509_1; first | rwa [add_block] at this | exact this) GW519.out))) _).trans (((cell_far (p := ⟨gb519, _, none⟩) (by first | exact Nat.ne_of_lt (Nat.lt_of_lt_of_le (by have := World.block_lt_of_cell? _ _ hw509_1; first | rwa [add_block] at this | exact this) GW519.out) | (rw [add_block]; exact Nat.ne_of_lt (Nat.lt_of_lt_of_le (by have := World.block_lt_of_cell? _ _ hw509_1; first | rwa [add_block] at this | exact this) GW519.out)) | (show (Addr.add _ _).block ≠ _; rw [add_block]; exact Nat.ne_of_lt (Nat.lt_of_lt_of_le (by have := World.block_lt_of_cell? _ _ hw509_1; first | rwa [add_block] at this | exact this) GW519.out)) | (dsimp only; exact Nat.ne_of_lt (Nat.lt_of_lt_of_le (by have := World.block_lt_of_cell? _ _ hw509_1; first | rwa [add_block] at this | exact this) GW519.out))) _).trans (((cell_far (p := ⟨gb519, _, none⟩) (by first | exact Nat.ne_of_lt (Nat.lt_of_lt_of_le (by have := World.block_lt_of_cell? _ _ hw509_1; first | rwa [add_block] at this | exact this) GW519.out) | (rw [add_block]; exact Nat.ne_of_lt (Nat.lt_of_lt_of_le (by have := World.block_lt_of_cell? _ _ hw509_1; first | rwa [add_block] at this | exact this) GW519.out)) | (show (Addr.add _ _).block ≠ _; rw [add_block]; exact Nat.ne_of_lt (Nat.lt_of_lt_of_le (by have := World.block_lt_of_cell? _ _ hw509_1; first | rwa [add_block] at this | exact this) GW519.out)) | (dsimp only; exact Nat.ne_of_lt (Nat.lt_of_lt_of_le (by have := World.block_lt_of_cell? _ _ hw509_1; first | rwa [add_block] at this | exact this) GW519.out))) _).trans (((cell_far (p := ⟨gb519, _, none⟩) (by first | exact Nat.ne_of_lt (Nat.lt_of_lt_of_le (by have := World.block_lt_of_cell? _ _ hw509_1; first | rwa [add_block] at this | exact this) GW519.out) | (rw [add_block]; exact Nat.ne_of_lt (Nat.lt_of_lt_of_le (by have := World.block_lt_of_cell? _ _ hw509_1; first | rwa [add_block] at this | exact this) GW519.out)) | (show (Addr.add _ _).block ≠ _; rw [add_block]; exact Nat.ne_of_lt (Nat.lt_of_lt_of_le (by have := World.block_lt_of_cell? _ _ hw509_1; first | rwa [add_block] at this | exact this) GW519.out)) | (dsimp only; exact Nat.ne_of_lt (Nat.lt_of_lt_of_le (by have := World.block_lt_of_cell? _ _ hw509_1; first | rwa [add_block] at this | exact this) GW519.out))) _).trans (((cell_far (p := ⟨gb519, _, none⟩) (by first | exact Nat.ne_of_lt (Nat.lt_of_lt_of_le (by have := World.block_lt_of_cell? _ _ hw509_1; first | rwa [add_block] at this | exact this) GW519.out) | (rw [add_block]; exact Nat.ne_of_lt (Nat.lt_of_lt_of_le (by have := World.block_lt_of_cell? _ _ hw509_1; first | rwa [add_block] at this | exact this) GW519.out)) | (show (Addr.add _ _).block ≠ _; rw [add_block]; exact Nat.ne_of_lt (Nat.lt_of_lt_of_le (by have := World.block_lt_of_cell? _ _ hw509_1; first | rwa [add_block] at this | exact this) GW519.out)) | (dsimp only; exact Nat.ne_of_lt (Nat.lt_of_lt_of_le (by have := World.block_lt_of_cell? _ _ hw509_1; first | rwa [add_block] at this | exact this) GW519.out))) _).trans (hHeld.2.1)))))))))))), ((cell_far (p := ⟨gb519, _, none⟩) (by first | exact Nat.ne_of_lt (Nat.lt_of_lt_of_le (by have := World.block_lt_of_cell? _ _ hw509_2; first | rwa [add_block] at this | exact this) GW519.out) | (rw [add_block]; exact Nat.ne_of_lt (Nat.lt_of_lt_of_le (by have := World.block_lt_of_cell? _ _ hw509_2; first | rwa [add_block] at this | exact this) GW519.out)) | (show (Addr.add _ _).block ≠ _; rw [add_block]; exact Nat.ne_of_lt (Nat.lt_of_lt_of_le (by have := World.block_lt_of_cell? _ _ hw509_2; first | rwa [add_block] at this | exact this) GW519.out)) | (dsimp only; exact Nat.ne_of_lt (Nat.lt_of_lt_of_le (by have := World.block_lt_of_cell? _ _ hw509_2; first | rwa [add_block] at this | exact this) GW519.out))) _).trans (((cell_far (p := ⟨gb519, _, none⟩) (by first | exact Nat.ne_of_lt (Nat.lt_of_lt_of_le (by have := World.block_lt_of_cell? _ _ hw509_2; first | rwa [add_block] at this | exact this) GW519.out) | (rw [add_block]; exact Nat.ne_of_lt (Nat.lt_of_lt_of_le (by have := World.block_lt_of_cell? _ _ hw509_2; first | rwa [add_block] at this | exact this) GW519.out)) | (show (Addr.add _ _).block ≠ _; rw [add_block]; exact Nat.ne_of_lt (Nat.lt_of_lt_of_le (by have := World.block_lt_of_cell? _ _ hw509_2; first | rwa [add_block] at this | exact this) GW519.out)) | (dsimp only; exact Nat.ne_of_lt (Nat.lt_of_lt_of_le (by have := World.block_lt_of_cell? _ _ hw509_2; first | rwa [add_block] at this | exact this) GW519.out))) _).trans (((cell_far (p := ⟨gb519, _, none⟩) (by first | exact Nat.ne_of_lt (Nat.lt_of_lt_of_le (by have := World.block_lt_of_cell? _ _ hw509_2; first | rwa [add_block] at this | exact this) GW519.out) | (rw [add_block]; exact Nat.ne_of_lt (Nat.lt_of_lt_of_le (by have := World.block_lt_of_cell? _ _ hw509_2; first | rwa [add_block] at this | exact this) GW519.out)) | (show (Addr.add _ _).block ≠ _; rw [add_block]; exact Nat.ne_of_lt (Nat.lt_of_lt_of_le (by have := World.block_lt_of_cell? _ _ hw509_2; first | rwa [add_block] at this | exact this) GW519.out)) | (dsimp only; exact Nat.ne_of_lt (Nat.lt_of_lt_of_le (by have := World.block_lt_of_cell? _ _ hw509_2; first | rwa [add_block] at this | exact this) GW519.out))) _).trans (((cell_far (p := ⟨gb519, _, none⟩) (by first | exact Nat.ne_of_lt (Nat.lt_of_lt_of_le (by have := World.block_lt_of_cell? _ _ hw509_2; first | rwa [add_block] at this | exact this) GW519.out) | (rw [add_block]; exact Nat.ne_of_lt (Nat.lt_of_lt_of_le (by have := World.block_lt_of_cell? _ _ hw509_2; first | rwa [add_block] at this | exact this) GW519.out)) | (show (Addr.add _ _).block ≠ _; rw [add_block]; exact Nat.ne_of_lt (Nat.lt_of_lt_of_le (by have := World.block_lt_of_cell? _ _ hw509_2; first | rwa [add_block] at this | exact this) GW519.out)) | (dsimp only; exact Nat.ne_of_lt (Nat.lt_of_lt_of_le (by have := World.block_lt_of_cell? _ _ hw509_2; first | rwa [add_block] at this | exact this) GW519.out))) _).trans (((cell_far (p := ⟨gb519, _, none⟩) (by first | exact Nat.ne_of_lt (Nat.lt_of_lt_of_le (by have := World.block_lt_of_cell? _ _ hw509_2; first | rwa [add_block] at this | exact this) GW519.out) | (rw [add_block]; exact Nat.ne_of_lt (Nat.lt_of_lt_of_le (by have := World.block_lt_of_cell? _ _ hw509_2; first | rwa [add_block] at this | exact this) GW519.out)) | (show (Addr.add _ _).block ≠ _; rw [add_block]; exact Nat.ne_of_lt (Nat.lt_of_lt_of_le (by have := World.block_lt_of_cell? _ _ hw509_2; first | rwa [add_block] at this | exact this) GW519.out)) | (dsimp only; exact Nat.ne_of_lt (Nat.lt_of_lt_of_le (by have := World.block_lt_of_cell? _ _ hw509_2; first | rwa [add_block] at this | exact this) GW519.out))) _).trans (((cell_far (p := ⟨gb519, _, none⟩) (by first | exact Nat.ne_of_lt (Nat.lt_of_lt_of_le (by have := World.block_lt_of_cell? _ _ hw509_2; first | rwa [add_block] at this | exact this) GW519.out) | (rw [add_block]; exact Nat.ne_of_lt (Nat.lt_of_lt_of_le (by have := World.block_lt_of_cell? _ _ hw509_2; first | rwa [add_block] at this | exact this) GW519.out)) | (show (Addr.add _ _).block ≠ _; rw [add_block]; exact Nat.ne_of_lt (Nat.lt_of_lt_of_le (by have := World.block_lt_of_cell? _ _ hw509_2; first | rwa [add_block] at this | exact this) GW519.out)) | (dsimp only; exact Nat.ne_of_lt (Nat.lt_of_lt_of_le (by have := World.block_lt_of_cell? _ _ hw509_2; first | rwa [add_block] at this | exact this) GW519.out))) _).trans (hHeld.2.2.1)))))))))))), ((cell_far (p := ⟨gb519, _, none⟩) (by first | exact Nat.ne_of_lt (Nat.lt_of_lt_of_le (by have := World.block_lt_of_cell? _ _ hw509_3; first | rwa [add_block] at this | exact this) GW519.out) | (rw [add_block]; exact Nat.ne_of_lt (Nat.lt_of_lt_of_le (by have := World.block_lt_of_cell? _ _ hw509_3; first | rwa [add_block] at this | exact this) GW519.out)) | (show (Addr.add _ _).block ≠ _; rw [add_block]; exact Nat.ne_of_lt (Nat.lt_of_lt_of_le (by have := World.block_lt_of_cell? _ _ hw509_3; first | rwa [add_block] at this | exact this) GW519.out)) | (dsimp only; exact Nat.ne_of_lt (Nat.lt_of_lt_of_le (by have := World.block_lt_of_cell? _ _ hw509_3; first | rwa [add_block] at this | exact this) GW519.out))) _).trans (((cell_far (p := ⟨gb519, _, none⟩) (by first | exact Nat.ne_of_lt (Nat.lt_of_lt_of_le (by have := World.block_lt_of_cell? _ _ hw509_3; first | rwa [add_block] at this | exact this) GW519.out) | (rw [add_block]; exact Nat.ne_of_lt (Nat.lt_of_lt_of_le (by have := World.block_lt_of_cell? _ _ hw509_3; first | rwa [add_block] at this | exact this) GW519.out)) | (show (Addr.add _ _).block ≠ _; rw [add_block]; exact Nat.ne_of_lt (Nat.lt_of_lt_of_le (by have := World.block_lt_of_cell? _ _ hw509_3; first | rwa [add_block] at this | exact this) GW519.out)) | (dsimp only; exact Nat.ne_of_lt (Nat.lt_of_lt_of_le (by have := World.block_lt_of_cell? _ _ hw509_3; first | rwa [add_block] at this | exact this) GW519.out))) _).trans (((cell_far (p := ⟨gb519, _, none⟩) (by first | exact Nat.ne_of_lt (Nat.lt_of_lt_of_le (by have := World.block_lt_of_cell? _ _ hw509_3; first | rwa [add_block] at this | exact this) GW519.out) | (rw [add_block]; exact Nat.ne_of_lt (Nat.lt_of_lt_of_le (by have := World.block_lt_of_cell? _ _ hw509_3; first | rwa [add_block] at this | exact this) GW519.out)) | (show (Addr.add _ _).block ≠ _; rw [add_block]; exact Nat.ne_of_lt (Nat.lt_of_lt_of_le (by have := World.block_lt_of_cell? _ _ hw509_3; first | rwa [add_block] at this | exact this) GW519.out)) | (dsimp only; exact Nat.ne_of_lt (Nat.lt_of_lt_of_le (by have := World.block_lt_of_cell? _ _ hw509_3; first | rwa [add_block] at this | exact this) GW519.out))) _).trans (((cell_far (p := ⟨gb519, _, none⟩) (by first | exact Nat.ne_of_lt (Nat.lt_of_lt_of_le (by have := World.block_lt_of_cell? _ _ hw509_3; first | rwa [add_block] at this | exact this) GW519.out) | (rw [add_block]; exact Nat.ne_of_lt (Nat.lt_of_lt_of_le (by have := World.block_lt_of_cell? _ _ hw509_3; first | rwa [add_block] at this | exact this) GW519.out)) | (show (Addr.add _ _).block ≠ _; rw [add_block]; exact Nat.ne_of_lt (Nat.lt_of_lt_of_le (by have := World.block_lt_of_cell? _ _ hw509_3; first | rwa [add_block] at this | exact this) GW519.out)) | (dsimp only; exact Nat.ne_of_lt (Nat.lt_of_lt_of_le (by have := World.block_lt_of_cell? _ _ hw509_3; first | rwa [add_block] at this | exact this) GW519.out))) _).trans (((cell_far (p := ⟨gb519, _, none⟩) (by first | exact Nat.ne_of_lt (Nat.lt_of_lt_of_le (by have := World.block_lt_of_cell? _ _ hw509_3; first | rwa [add_block] at this | exact this) GW519.out) | (rw [add_block]; exact Nat.ne_of_lt (Nat.lt_of_lt_of_le (by have := World.block_lt_of_cell? _ _ hw509_3; first | rwa [add_block] at this | exact this) GW519.out)) | (show (Addr.add _ _).block ≠ _; rw [add_block]; exact Nat.ne_of_lt (Nat.lt_of_lt_of_le (by have := World.block_lt_of_cell? _ _ hw509_3; first | rwa [add_block] at this | exact this) GW519.out)) | (dsimp only; exact Nat.ne_of_lt (Nat.lt_of_lt_of_le (by have := World.block_lt_of_cell? _ _ hw509_3; first | rwa [add_block] at this | exact this) GW519.out))) _).trans (((cell_far (p := ⟨gb519, _, none⟩) (by first | exact Nat.ne_of_lt (Nat.lt_of_lt_of_le (by have := World.block_lt_of_cell? _ _ hw509_3; first | rwa [add_block] at this | exact this) GW519.out) | (rw [add_block]; exact Nat.ne_of_lt (Nat.lt_of_lt_of_le (by have := World.block_lt_of_cell? _ _ hw509_3; first | rwa [add_block] at this | exact this) GW519.out)) | (show (Addr.add _ _).block ≠ _; rw [add_block]; exact Nat.ne_of_lt (Nat.lt_of_lt_of_le (by have := World.block_lt_of_cell? _ _ hw509_3; first | rwa [add_block] at this | exact this) GW519.out)) | (dsimp only; exact Nat.ne_of_lt (Nat.lt_of_lt_of_le (by have := World.block_lt_of_cell? _ _ hw509_3; first | rwa [add_block] at this | exact this) GW519.out))) _).trans (hHeld.2.2.2.1)))))))))))), ((cell_far (p := ⟨gb519, _, none⟩) (by first | exact Nat.ne_of_lt (Nat.lt_of_lt_of_le (by have := World.block_lt_of_cell? _ _ hw509_4; first | rwa [add_block] at this | exact this) GW519.out) | (rw [add_block]; exact Nat.ne_of_lt (Nat.lt_of_lt_of_le (by have := World.block_lt_of_cell? _ _ hw509_4; first | rwa [add_block] at this | exact this) GW519.out)) | (show (Addr.add _ _).block ≠ _; rw [add_block]; exact Nat.ne_of_lt (Nat.lt_of_lt_of_le (by have := World.block_lt_of_cell? _ _ hw509_4; first | rwa [add_block] at this | exact this) GW519.out)) | (dsimp only; exact Nat.ne_of_lt (Nat.lt_of_lt_of_le (by have := World.block_lt_of_cell? _ _ hw509_4; first | rwa [add_block] at this | exact this) GW519.out))) _).trans (((cell_far (p := ⟨gb519, _, none⟩) (by first | exact Nat.ne_of_lt (Nat.lt_of_lt_of_le (by have := World.block_lt_of_cell? _ _ hw509_4; first | rwa [add_block] at this | exact this) GW519.out) | (rw [add_block]; exact Nat.ne_of_lt (Nat.lt_of_lt_of_le (by have := World.block_lt_of_cell? _ _ hw509_4; first | rwa [add_block] at this | exact this) GW519.out)) | (show (Addr.add _ _).block ≠ _; rw [add_block]; exact Nat.ne_of_lt (Nat.lt_of_lt_of_le (by have := World.block_lt_of_cell? _ _ hw509_4; first | rwa [add_block] at this | exact this) GW519.out)) | (dsimp only; exact Nat.ne_of_lt (Nat.lt_of_lt_of_le (by have := World.block_lt_of_cell? _ _ hw509_4; first | rwa [add_block] at this | exact this) GW519.out))) _).trans (((cell_far (p := ⟨gb519, _, none⟩) (by first | exact Nat.ne_of_lt (Nat.lt_of_lt_of_le (by have := World.block_lt_of_cell? _ _ hw509_4; first | rwa [add_block] at this | exact this) GW519.out) | (rw [add_block]; exact Nat.ne_of_lt (Nat.lt_of_lt_of_le (by have := World.block_lt_of_cell? _ _ hw509_4; first | rwa [add_block] at this | exact this) GW519.out)) | (show (Addr.add _ _).block ≠ _; rw [add_block]; exact Nat.ne_of_lt (Nat.lt_of_lt_of_le (by have := World.block_lt_of_cell? _ _ hw509_4; first | rwa [add_block] at this | exact this) GW519.out)) | (dsimp only; exact Nat.ne_of_lt (Nat.lt_of_lt_of_le (by have := World.block_lt_of_cell? _ _ hw509_4; first | rwa [add_block] at this | exact this) GW519.out))) _).trans (((cell_far (p := ⟨gb519, _, none⟩) (by first | exact Nat.ne_of_lt (Nat.lt_of_lt_of_le (by have := World.block_lt_of_cell? _ _ hw509_4; first | rwa [add_block] at this | exact this) GW519.out) | (rw [add_block]; exact Nat.ne_of_lt (Nat.lt_of_lt_of_le (by have := World.block_lt_of_cell? _ _ hw509_4; first | rwa [add_block] at this | exact this) GW519.out)) | (show (Addr.add _ _).block ≠ _; rw [add_block]; exact Nat.ne_of_lt (Nat.lt_of_lt_of_le (by have := World.block_lt_of_cell? _ _ hw509_4; first | rwa [add_block] at this | exact this) GW519.out)) | (dsimp only; exact Nat.ne_of_lt (Nat.lt_of_lt_of_le (by have := World.block_lt_of_cell? _ _ hw509_4; first | rwa [add_block] at this | exact this) GW519.out))) _).trans (((cell_far (p := ⟨gb519, _, none⟩) (by first | exact Nat.ne_of_lt (Nat.lt_of_lt_of_le (by have := World.block_lt_of_cell? _ _ hw509_4; first | rwa [add_block] at this | exact this) GW519.out) | (rw [add_block]; exact Nat.ne_of_lt (Nat.lt_of_lt_of_le (by have := World.block_lt_of_cell? _ _ hw509_4; first | rwa [add_block] at this | exact this) GW519.out)) | (show (Addr.add _ _).block ≠ _; rw [add_block]; exact Nat.ne_of_lt (Nat.lt_of_lt_of_le (by have := World.block_lt_of_cell? _ _ hw509_4; first | rwa [add_block] at this | exact this) GW519.out)) | (dsimp only; exact Nat.ne_of_lt (Nat.lt_of_lt_of_le (by have := World.block_lt_of_cell? _ _ hw509_4; first | rwa [add_block] at this | exact this) GW519.out))) _).trans (((cell_far (p := ⟨gb519, _, none⟩) (by first | exact Nat.ne_of_lt (Nat.lt_of_lt_of_le (by have := World.block_lt_of_cell? _ _ hw509_4; first | rwa [add_block] at this | exact this) GW519.out) | (rw [add_block]; exact Nat.ne_of_lt (Nat.lt_of_lt_of_le (by have := World.block_lt_of_cell? _ _ hw509_4; first | rwa [add_block] at this | exact this) GW519.out)) | (show (Addr.add _ _).block ≠ _; rw [add_block]; exact Nat.ne_of_lt (Nat.lt_of_lt_of_le (by have := World.block_lt_of_cell? _ _ hw509_4; first | rwa [add_block] at this | exact this) GW519.out)) | (dsimp only; exact Nat.ne_of_lt (Nat.lt_of_lt_of_le (by have := World.block_lt_of_cell? _ _ hw509_4; first | rwa [add_block] at this | exact this) GW519.out))) _).trans (hHeld.2.2.2.2.1)))))))))))), ((cell_far (p := ⟨gb519, _, none⟩) (by first | exact Nat.ne_of_lt (Nat.lt_of_lt_of_le (by have := World.block_lt_of_cell? _ _ hw509_5; first | rwa [add_block] at this | exact this) GW519.out) | (rw [add_block]; exact Nat.ne_of_lt (Nat.lt_of_lt_of_le (by have := World.block_lt_of_cell? _ _ hw509_5; first | rwa [add_block] at this | exact this) GW519.out)) | (show (Addr.add _ _).block ≠ _; rw [add_block]; exact Nat.ne_of_lt (Nat.lt_of_lt_of_le (by have := World.block_lt_of_cell? _ _ hw509_5; first | rwa [add_block] at this | exact this) GW519.out)) | (dsimp only; exact Nat.ne_of_lt (Nat.lt_of_lt_of_le (by have := World.block_lt_of_cell? _ _ hw509_5; first | rwa [add_block] at this | exact this) GW519.out))) _).trans (((cell_far (p := ⟨gb519, _, none⟩) (by first | exact Nat.ne_of_lt (Nat.lt_of_lt_of_le (by have := World.block_lt_of_cell? _ _ hw509_5; first | rwa [add_block] at this | exact this) GW519.out) | (rw [add_block]; exact Nat.ne_of_lt (Nat.lt_of_lt_of_le (by have := World.block_lt_of_cell? _ _ hw509_5; first | rwa [add_block] at this | exact this) GW519.out)) | (show (Addr.add _ _).block ≠ _; rw [add_block]; exact Nat.ne_of_lt (Nat.lt_of_lt_of_le (by have := World.block_lt_of_cell? _ _ hw509_5; first | rwa [add_block] at this | exact this) GW519.out)) | (dsimp only; exact Nat.ne_of_lt (Nat.lt_of_lt_of_le (by have := World.block_lt_of_cell? _ _ hw509_5; first | rwa [add_block] at this | exact this) GW519.out))) _).trans (((cell_far (p := ⟨gb519, _, none⟩) (by first | exact Nat.ne_of_lt (Nat.lt_of_lt_of_le (by have := World.block_lt_of_cell? _ _ hw509_5; first | rwa [add_block] at this | exact this) GW519.out) | (rw [add_block]; exact Nat.ne_of_lt (Nat.lt_of_lt_of_le (by have := World.block_lt_of_cell? _ _ hw509_5; first | rwa [add_block] at this | exact this) GW519.out)) | (show (Addr.add _ _).block ≠ _; rw [add_block]; exact Nat.ne_of_lt (Nat.lt_of_lt_of_le (by have := World.block_lt_of_cell? _ _ hw509_5; first | rwa [add_block] at this | exact this) GW519.out)) | (dsimp only; exact Nat.ne_of_lt (Nat.lt_of_lt_of_le (by have := World.block_lt_of_cell? _ _ hw509_5; first | rwa [add_block] at this | exact this) GW519.out))) _).trans (((cell_far (p := ⟨gb519, _, none⟩) (by first | exact Nat.ne_of_lt (Nat.lt_of_lt_of_le (by have := World.block_lt_of_cell? _ _ hw509_5; first | rwa [add_block] at this | exact this) GW519.out) | (rw [add_block]; exact Nat.ne_of_lt (Nat.lt_of_lt_of_le (by have := World.block_lt_of_cell? _ _ hw509_5; first | rwa [add_block] at this | exact this) GW519.out)) | (show (Addr.add _ _).block ≠ _; rw [add_block]; exact Nat.ne_of_lt (Nat.lt_of_lt_of_le (by have := World.block_lt_of_cell? _ _ hw509_5; first | rwa [add_block] at this | exact this) GW519.out)) | (dsimp only; exact Nat.ne_of_lt (Nat.lt_of_lt_of_le (by have := World.block_lt_of_cell? _ _ hw509_5; first | rwa [add_block] at this | exact this) GW519.out))) _).trans (((cell_far (p := ⟨gb519, _, none⟩) (by first | exact Nat.ne_of_lt (Nat.lt_of_lt_of_le (by have := World.block_lt_of_cell? _ _ hw509_5; first | rwa [add_block] at this | exact this) GW519.out) | (rw [add_block]; exact Nat.ne_of_lt (Nat.lt_of_lt_of_le (by have := World.block_lt_of_cell? _ _ hw509_5; first | rwa [add_block] at this | exact this) GW519.out)) | (show (Addr.add _ _).block ≠ _; rw [add_block]; exact Nat.ne_of_lt (Nat.lt_of_lt_of_le (by have := World.block_lt_of_cell? _ _ hw509_5; first | rwa [add_block] at this | exact this) GW519.out)) | (dsimp only; exact Nat.ne_of_lt (Nat.lt_of_lt_of_le (by have := World.block_lt_of_cell? _ _ hw509_5; first | rwa [add_block] at this | exact this) GW519.out))) _).trans (((cell_far (p := ⟨gb519, _, none⟩) (by first | exact Nat.ne_of_lt (Nat.lt_of_lt_of_le (by have := World.block_lt_of_cell? _ _ hw509_5; first | rwa [add_block] at this | exact this) GW519.out) | (rw [add_block]; exact Nat.ne_of_lt (Nat.lt_of_lt_of_le (by have := World.block_lt_of_cell? _ _ hw509_5; first | rwa [add_block] at this | exact this) GW519.out)) | (show (Addr.add _ _).block ≠ _; rw [add_block]; exact Nat.ne_of_lt (Nat.lt_of_lt_of_le (by have := World.block_lt_of_cell? _ _ hw509_5; first | rwa [add_block] at this | exact this) GW519.out)) | (dsimp only; exact Nat.ne_of_lt (Nat.lt_of_lt_of_le (by have := World.block_lt_of_cell? _ _ hw509_5; first | rwa [add_block] at this | exact this) GW519.out))) _).trans (hHeld.2.2.2.2.2))))))))))))⟩ (fun hHeld => ?_)
                    clear hK K
                    refine pure_ (i := 14) (N := some 7) (v := ?_) (a' := ?_) #[true, true, true, true, true, true, true, true, true, true, true, true, true, true, true] rfl rfl (any_of HT_.out (by kernel_rfl)) (fun _ _ _ h => h) (Or.inl ⟨by rfl, ?_⟩) ?_ ?_
                    rotate_left
                    · intro w'
                      go_simp
                      with_reducible rfl
                    rotate_left
                    · simp only [Act.put, List.setIfInBounds_toArray, List.set_cons_zero, List.set_cons_succ, i64_w, i32_w]
                      rfl
                    refine done_ (done_of HT_.out (by kernel_rfl)) ?_
                    try go_wp2
                    go_roundg k2
                    case measure => have := HK1.out; have := HK2.out; omega
                    case rel => exact ⟨(wrap64 (x5_2 + 1)), (by first | rfl | (simp; done) | (simp [*]; done) | (simp; (generalize ByteArray.toList _ = z_); cases z_ <;> rfl)), H', ⟨by have := HK1.out; have := HK2.out; omega⟩, ⟨by repeat (first | (with_reducible first | exact HB.out | apply below_alloc | apply pw_below_drewN | apply below_drew1 | refine below_set ?_ GE519.out) | exact HB.out)⟩⟩
                · rw [if_neg c10] at H
                  exact absurd H (by simp)
              · rw [if_neg c9] at H
                exact absurd H (by simp)
            · rw [if_neg c8] at H
              have c8b0 : decide (x5_2 < (l0.length : Int)) = false := decide_eq_false c8
              clear c8
              by_cases c37 : (l0.length : Int) > 256
              · rw [if_pos c37] at H
                have c37b0 : decide (256 < (l0.length : Int)) = true := decide_eq_true c37
                have c37b1 : decide (256 < l0.length) = true := decide_eq_true (by omega)
                clear c37
                simp only [Option.some.injEq, Prod.mk.injEq] at H
                obtain ⟨rfl, rfl⟩ := H
                go_wp2
                go_ret2
                exact ⟨by first | rfl | (simp [errW_none, errW_some] <;> rfl) | (simp [*, errW_none, errW_some] <;> rfl) | (simp; (generalize ByteArray.toList _ = z_); cases z_ <;> rfl), by repeat (first | (with_reducible first | exact HB.out | apply below_alloc | apply pw_below_drewN | apply below_drew1) | exact HB.out)⟩
              · rw [if_neg c37] at H
                have c37b0 : decide (256 < (l0.length : Int)) = false := decide_eq_false c37
                have c37b1 : decide (256 < l0.length) = false := decide_eq_false (by omega)
                clear c37
                have H' := Aside0.mk H
                clear H
                go_wp2
                go_loopg [8, 9] k2 (fun kq v8 v9 w' => ∃ (x8_3 : ByteArray) (x9_3 : Int), v8 = .string x8_3 ∧ v9 = .int .i64 x9_3 ∧ Aside0 (wicketref11_Print.l2 kq l0 x8_3 x9_3 = some (r1, r2)) ∧ Aside0 (kq ≤ k2) ∧ Aside0 (Below w.heap.size w w'))
                case atStart => exact ⟨((⟨#[]⟩ : ByteArray)), (0), (by first | rfl | (simp; done) | (simp [*]; done) | (simp; (generalize ByteArray.toList _ = z_); cases z_ <;> rfl)), (by first | rfl | (simp; done) | (simp [*]; done) | (simp; (generalize ByteArray.toList _ = z_); cases z_ <;> rfl)), H', ⟨Nat.le_refl _⟩, ⟨by repeat (first | (with_reducible first | exact HB.out | apply below_alloc | apply pw_below_drewN | apply below_drew1) | exact HB.out)⟩⟩
                case round =>
                  clear H'
                  try clear c1
                  try clear p2
                  try clear q2
                  try clear c3
                  try clear c5
                  try clear p5
                  try clear q5
                  try clear hx5
                  try clear p6
                  try clear c8
                  try clear c8b0
                  try clear c9
                  try clear c10
                  try clear c12
                  try clear q26
                  try clear c30
                  try clear c37
                  try clear c37b0
                  try clear c37b1
                  try clear hx509_0
                  try clear hx509_1
                  try clear hx509_2
                  try clear hx509_3
                  try clear hx509_4
                  try clear hx509_5
                  try clear p509
                  try clear q26
                  try clear q509
                  obtain ⟨x8_3, x9_3, rfl, rfl, HA, HK3, HB⟩ := hrel
                  cases gk with
                  | zero => exact absurd HA.out (by simp [wicketref11_Print.l2])
                  | succ k3 =>
                    have H := HA.out
                    clear HA
                    simp only [wicketref11_Print.l2] at H
                    by_cases c38 : x9_3 < (l0.length : Int)
                    · rw [if_pos c38] at H
                      have c38b0 : decide (x9_3 < (l0.length : Int)) = true := decide_eq_true c38
                      clear c38
                      by_cases c39 : 0 ≤ x9_3
                      · rw [if_pos c39] at H
                        have c39b0 : decide (0 ≤ x9_3) = true := decide_eq_true c39
                        clear c39
                        replace H := Option.bind_eq_some_iff.mp H
                        obtain ⟨t521, A400, H⟩ := H
                        replace H : (if x8_3.size + t521.size ≤ 9223372036854775807 then (wicketref11_Print.l2 k3 l0 (x8_3 ++ t521) (wrap64 (x9_3 + 1))) else (none)) = some (r1, r2) := H
                        have A40 := Aside0.mk A400
                        clear A400
                        by_cases c41 : x8_3.size + t521.size ≤ 9223372036854775807
                        · rw [if_pos c41] at H
                          have c41b0 := eq_true c41
                          have c41b1 : decide (x8_3.size + t521.size ≤ 9223372036854775807) = true := decide_eq_true c41
                          try have c41b2 : (9223372036854775807 < x8_3.size + t521.size) = False := eq_false (Nat.not_lt.2 c41)
                          have H' := Aside0.mk H
                          clear H
                          have p520 : 0 ≤ (x9_3 : Int) := of_decide_eq_true (by first | (with_reducible assumption) | assumption)
                          have q520 : x9_3 < (l0.length : Int) := of_decide_eq_true (by first | (with_reducible assumption) | assumption)
                          obtain ⟨ad520, A520_5, c520_5, e520, hx520_0, hx520_1, hx520_2, hx520_3, hx520_4, hx520_5, hl520_5, hi520_5⟩ := at_T43 HR0.out x9_3 p520 q520
                          cases e520
                          replace hx520_0 := (HB.out.cell (World.block_lt_of_cell? w _ hx520_0)).trans hx520_0
                          replace hx520_1 := (HB.out.cell (World.block_lt_of_cell? w _ hx520_1)).trans hx520_1
                          replace hx520_2 := (HB.out.cell (World.block_lt_of_cell? w _ hx520_2)).trans hx520_2
                          replace hx520_3 := (HB.out.cell (World.block_lt_of_cell? w _ hx520_3)).trans hx520_3
                          replace hx520_4 := (HB.out.cell (World.block_lt_of_cell? w _ hx520_4)).trans hx520_4
                          replace hx520_5 := (HB.out.cell (World.block_lt_of_cell? w _ hx520_5)).trans hx520_5
                          have HR520_5 := Aside0.mk hi520_5
                          have HC520_5 := Aside0.mk hl520_5
                          clear hi520_5 hl520_5
                          replace p520 := eq_true p520
                          replace q520 := eq_true q520
                          go_wp2_with (first | ((with_reducible refine gate_callee (f := 49) rfl ?_); refine goesL_ (some 55) rfl rfl Tryz.func49 (by kernel_rfl) rfl #[.agg #[.string ((rd_T43 l0 x9_3).f0), .string ((rd_T43 l0 x9_3).f1), .int .i64 ((rd_T43 l0 x9_3).f2), .bool ((rd_T43 l0 x9_3).f3), .string ((rd_T43 l0 x9_3).f4), .slice A520_5 ((rd_T43 l0 x9_3).f5).length c520_5]] rfl (by (try simp only [List.map_toArray, List.map_cons, List.map_nil]); first | done | rfl | (simp only [List.length_drop, List.length_take]; rfl)) ?_; (with_reducible refine (wicketref11_said.calls k3 ((rd_T43 l0 x9_3).f0) ((rd_T43 l0 x9_3).f1) ((rd_T43 l0 x9_3).f2) ((rd_T43 l0 x9_3).f3) ((rd_T43 l0 x9_3).f4) _ _ ((rd_T43 l0 x9_3).f5) t521 _ ?side1 ?side2 A40.out).mono ?_); (case side1 => repeat (first | exact (Kd.C_below HR520_5.out HB.out) | (with_reducible refine Kd.C_alloc ?_ _) | (with_reducible refine Kd.C_drewN ?_ _) | (with_reducible refine Kd.C_drew ?_))); (case side2 => exact HC520_5.out); rintro e w42 ⟨rfl, hb⟩; refine ⟨_, rfl, ?_⟩; have n0_ := Aside0.mk (below_step (by repeat (first | (with_reducible first | exact HB.out | apply below_alloc | apply pw_below_drewN | apply below_drew1) | exact HB.out)) hb); clear HB; have HB := n0_; clear n0_; (try clear hb); (try clear hb2); (try clear hk); (try clear hi)))
                          go_roundg k3
                          case measure => have := HK1.out; have := HK2.out; have := HK3.out; omega
                          case rel => exact ⟨(x8_3 ++ t521), (wrap64 (x9_3 + 1)), (by first | rfl | (simp; done) | (simp [*]; done) | (simp; (generalize ByteArray.toList _ = z_); cases z_ <;> rfl)), (by first | rfl | (simp; done) | (simp [*]; done) | (simp; (generalize ByteArray.toList _ = z_); cases z_ <;> rfl)), H', ⟨by have := HK1.out; have := HK2.out; have := HK3.out; omega⟩, ⟨by repeat (first | (with_reducible first | exact HB.out | apply below_alloc | apply pw_below_drewN | apply below_drew1) | exact HB.out)⟩⟩
                        · rw [if_neg c41] at H
                          exact absurd H (by simp)
                      · rw [if_neg c39] at H
                        exact absurd H (by simp)
                    · rw [if_neg c38] at H
                      have c38b0 : decide (x9_3 < (l0.length : Int)) = false := decide_eq_false c38
                      clear c38
                      by_cases c43 : (x8_3.size : Int) > 65536
                      · rw [if_pos c43] at H
                        have c43b0 : decide (65536 < (x8_3.size : Int)) = true := decide_eq_true c43
                        have c43b1 : decide (65536 < x8_3.size) = true := decide_eq_true (by omega)
                        clear c43
                        simp only [Option.some.injEq, Prod.mk.injEq] at H
                        obtain ⟨rfl, rfl⟩ := H
                        go_wp2
                        go_ret2
                        exact ⟨by first | rfl | (simp [errW_none, errW_some] <;> rfl) | (simp [*, errW_none, errW_some] <;> rfl) | (simp; (generalize ByteArray.toList _ = z_); cases z_ <;> rfl), by repeat (first | (with_reducible first | exact HB.out | apply below_alloc | apply pw_below_drewN | apply below_drew1) | exact HB.out)⟩
                      · rw [if_neg c43] at H
                        have c43b0 : decide (65536 < (x8_3.size : Int)) = false := decide_eq_false c43
                        have c43b1 : decide (65536 < x8_3.size) = false := decide_eq_false (by omega)
                        clear c43
                        simp only [Option.some.injEq, Prod.mk.injEq] at H
                        obtain ⟨rfl, rfl⟩ := H
                        go_wp2
                        go_ret2
                        exact ⟨by first | rfl | (simp [errW_none, errW_some] <;> rfl) | (simp [*, errW_none, errW_some] <;> rfl) | (simp; (generalize ByteArray.toList _ = z_); cases z_ <;> rfl), by repeat (first | (with_reducible first | exact HB.out | apply below_alloc | apply pw_below_drewN | apply below_drew1) | exact HB.out)⟩
end Go.Proofs.YtmimipgmhgalaaaGreatDoor.PAll
end
