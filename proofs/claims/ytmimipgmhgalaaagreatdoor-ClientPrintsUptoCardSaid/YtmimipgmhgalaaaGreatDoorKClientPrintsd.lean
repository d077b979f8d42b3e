/-
  Part 4 of what the proof of ClientPrints leans on: words of the print, walks of functions and plain laws; put together by pack.py, a program of this session.
-/
import Derived.Deep.RegionWith
import Derived.Outline
import Derived.Test.YtmimipgmhgalaaaGreatDoorKClientPrintsc
section
namespace Go.Proofs.YtmimipgmhgalaaaGreatDoor.PAll
open Go.RowKit Go.Proofs.YtmimipgmhgalaaaGreatDoorW.PrintWords Go.Proofs.YtmimipgmhgalaaaGreatDoorW.PrintLast Go.Proofs.YtmimipgmhgalaaaGreatDoorW.PrintMore
attribute [local go_sem] max2_int min2_int max_two min_two max_three min_three max_four min_four
set_option linter.unusedVariables false
set_option linter.unusedSimpArgs false
mutual
def client_line.j0 : Nat → List ByteArray → ByteArray → ByteArray → Int → Bool → ByteArray → List ByteArray → Option (ByteArray)
  | 0, _, _, _, _, _, _, _ => none
  | k + 1, x3, x358000, x358001, x358002, x358003, x358004, x358005 => if (Go.bits .and .i64 x358002 1) = 0 then (client_line.j1 k x3 x358000 x358001 x358002 x358003 x358004 x358005) else (if x3.length < 8796093022208 then (client_line.j1 k (x3 ++ [(⟨#[100, 101, 118, 105, 99, 101]⟩ : ByteArray)]) x358000 x358001 x358002 x358003 x358004 x358005) else (none))
def client_line.j1 : Nat → List ByteArray → ByteArray → ByteArray → Int → Bool → ByteArray → List ByteArray → Option (ByteArray)
  | 0, _, _, _, _, _, _, _ => none
  | k + 1, x3, x358000, x358001, x358002, x358003, x358004, x358005 => if x358003 = true then (client_line.j2 k x3 (⟨#[121, 101, 115]⟩ : ByteArray) x358000 x358001 x358002 x358003 x358004 x358005) else (client_line.j2 k x3 (⟨#[]⟩ : ByteArray) x358000 x358001 x358002 x358003 x358004 x358005)
def client_line.j2 : Nat → List ByteArray → ByteArray → ByteArray → ByteArray → Int → Bool → ByteArray → List ByteArray → Option (ByteArray)
  | 0, _, _, _, _, _, _, _, _ => none
  | k + 1, x3, x4, x358000, x358001, x358002, x358003, x358004, x358005 => (strings_Join.f x3 (⟨#[32]⟩ : ByteArray)).bind fun t364 => ((strings_Join.f x358005 (⟨#[32]⟩ : ByteArray)).bind fun t365 => ((api_Pair.f (([(⟨(⟨#[105, 100]⟩ : ByteArray), x358000⟩ : S68), (⟨(⟨#[115, 101, 99, 114, 101, 116]⟩ : ByteArray), x358001⟩ : S68), (⟨(⟨#[103, 114, 97, 110, 116, 115]⟩ : ByteArray), t364⟩ : S68), (⟨(⟨#[112, 105, 110, 103]⟩ : ByteArray), x4⟩ : S68), (⟨(⟨#[117, 114, 108]⟩ : ByteArray), x358004⟩ : S68), (⟨(⟨#[115, 99, 111, 112, 101]⟩ : ByteArray), t365⟩ : S68)] : List (S68)))).bind fun t369 => ((urlform_Print.f t369).bind fun t372 => (if t372.size + 1 ≤ 9223372036854775807 then (some (t372 ++ (⟨#[10]⟩ : ByteArray))) else (none)))))
end
def client_line.f (k : Nat) (a0_0 : ByteArray) (a0_1 : ByteArray) (a0_2 : Int) (a0_3 : Bool) (a0_4 : ByteArray) (l0_5 : List ByteArray) : Option (ByteArray) := if (Go.bits .and .i64 a0_2 2) = 0 then (client_line.j0 k ([] : List ByteArray) a0_0 a0_1 a0_2 a0_3 a0_4 l0_5) else (if ([] : List ByteArray).length < 8796093022208 then (client_line.j0 k (([] : List ByteArray) ++ [(⟨#[99, 105, 98, 97]⟩ : ByteArray)]) a0_0 a0_1 a0_2 a0_3 a0_4 l0_5) else (none))
def client_line.T9 : Bool × List (List Nat × List Nat) := (true, [([], []), ([0], [0]), ([1], [1]), ([], []), ([3], [3]), ([4], [4]), ([], []), ([6], [6]), ([7], [7]), ([], []), ([9], [9]), ([], []), ([11], [11]), ([12], [12]), ([], []), ([14], [14]), ([15, 7], [15]), ([16], [16]), ([2, 5, 8, 10, 13, 17], [2, 5, 8, 10, 13, 17]), ([18, 16, 0, 1, 2, 3, 4, 5, 6, 7, 8, 9, 10, 11, 12, 13, 14, 15, 16, 17, 18], [18])])
def client_line.B9 : List Nat := [0, 1, 3, 0, 8, 24, 0, 64, 192, 0, 512, 0, 2048, 6144, 0, 16384, 49344, 114880, 262143, 524287]
theorem client_line.tab9 : rtab .any (opsOf Tryz.f46 9) = client_line.T9 := by kernel_rfl
theorem client_line.bits9 : waitsOk client_line.T9.2 client_line.B9 = true := by kernel_rfl
set_option maxHeartbeats 8000000 in
set_option maxRecDepth 100000 in
theorem client_line.calls (k : Nat) (a0_0 : ByteArray) (a0_1 : ByteArray) (a0_2 : Int) (a0_3 : Bool) (a0_4 : ByteArray) (A0_5 : Option Addr) (c0_5 : Nat) (l0_5 : List ByteArray) (r : ByteArray) (w : World) (hr0_5 : Kd.C Kd.string w A0_5 l0_5.length l0_5) (hc0_5 : l0_5.length ≤ c0_5) (h : client_line.f k a0_0 a0_1 a0_2 a0_3 a0_4 l0_5 = some r) :
    Calls Tryz.prog 46 #[.agg #[.string a0_0, .string a0_1, .int .i64 a0_2, .bool a0_3, .string a0_4, .slice A0_5 l0_5.length c0_5]] w fun e w' => e = .returned (.string r) ∧ Below w.heap.size w w' := by
  have hu40 := Tryz.underlying40
  have hu68 := Tryz.underlying68
  have HR0_5 := Aside0.mk hr0_5
  have HC0_5 := Aside0.mk hc0_5
  clear hr0_5 hc0_5
  have HB := Aside0.mk (Below.refl w.heap.size w)
  have H : (if (Go.bits .and .i64 a0_2 2) = 0 then (client_line.j0 k ([] : List ByteArray) a0_0 a0_1 a0_2 a0_3 a0_4 l0_5) else (if ([] : List ByteArray).length < 8796093022208 then (client_line.j0 k (([] : List ByteArray) ++ [(⟨#[99, 105, 98, 97]⟩ : ByteArray)]) a0_0 a0_1 a0_2 a0_3 a0_4 l0_5) else (none))) = some r := h
  clear h
  have HC2 := Aside0.mk H
  clear H
  go_enter Tryz.func46, Tryz.ntmps46
  go_upto_if 9 with (first | ((with_reducible refine gate_dst (N := 1) rfl ?_); refine box_event ?hg (N := 1) ?hd (cs := #[.string a0_0, .string a0_1, .int .i64 a0_2, .bool a0_3, .string a0_4, .slice A0_5 l0_5.length c0_5]) (t := 40) ?hr ?_; (case hd => rfl); (case hg => rfl); (case hr => first | (go_simp; done) | (go_simp; rfl)); intro gb357 hg w3 hbox hb; have n0_ := Aside0.mk (below_step (by repeat (first | (with_reducible first | exact HB.out | apply below_alloc | apply pw_below_drewN | apply below_drew1) | exact HB.out)) hb); have n1_ := Aside0.mk (hbox); have n2_ := Aside0.mk ((by rw [hg]; exact (below_size (by repeat (first | (with_reducible first | exact HB.out | apply below_alloc | apply pw_below_drewN | apply below_drew1) | exact HB.out))) : w.heap.size ≤ gb357)); have n3_ := Aside0.mk ((by rw [hg]; exact (below_size (by repeat (first | (with_reducible first | exact HB.out | apply below_alloc | apply pw_below_drewN | apply below_drew1) | exact HB.out))) : w.heap.size ≤ gb357)); clear HB; have HB := n0_; have BK357 := n1_; have GW357 := n2_; have GE357 := n3_; clear n0_ n1_ n2_ n3_; clear hb hbox hg; have hcz4_0 : w3.cell? ⟨gb357, 0, none⟩ = some (.string a0_0) := (blk_cell BK357.out 0).trans rfl; have hcz4_1 : w3.cell? ⟨gb357, 1, none⟩ = some (.string a0_1) := (blk_cell BK357.out 1).trans rfl; have hcz4_2 : w3.cell? ⟨gb357, 2, none⟩ = some (.int .i64 a0_2) := (blk_cell BK357.out 2).trans rfl; have hcz4_3 : w3.cell? ⟨gb357, 3, none⟩ = some (.bool a0_3) := (blk_cell BK357.out 3).trans rfl; have hcz4_4 : w3.cell? ⟨gb357, 4, none⟩ = some (.string a0_4) := (blk_cell BK357.out 4).trans rfl; have hcz4_5 : w3.cell? ⟨gb357, 5, none⟩ = some (.slice A0_5 l0_5.length c0_5) := (blk_cell BK357.out 5).trans rfl; have hfz4_0 := blk_frozen BK357.out 0; have hfz4_1 := blk_frozen BK357.out 1; have hfz4_2 := blk_frozen BK357.out 2; have hfz4_3 := blk_frozen BK357.out 3; have hfz4_4 := blk_frozen BK357.out 4; have hfz4_5 := blk_frozen BK357.out 5))
  (try simp only [Act.put, List.setIfInBounds_toArray, List.set_cons_zero, List.set_cons_succ])
  go_cut [3] (fun v3 wc => ∃ (kq : Nat) (x3_1 : List ByteArray), Aside0 (client_line.j0 kq x3_1 a0_0 a0_1 a0_2 a0_3 a0_4 l0_5 = some r) ∧ Aside0 (kq ≤ k) ∧ Aside0 (Kd.R Kd.string 9 wc w.heap.size (fun _ => True) v3 x3_1) ∧ Aside0 (wc.heap[gb357]? = some (.cells #[.string a0_0, .string a0_1, .int .i64 a0_2, .bool a0_3, .string a0_4, (.slice A0_5 l0_5.length c0_5)] 40 (0, 0))) ∧ Aside0 (Below w.heap.size w wc))
  case first =>
    have H := HC2.out
    clear HC2
    by_cases c5 : (Go.bits .and .i64 a0_2 2) = 0
    · rw [if_pos c5] at H
      have c5b0 : ((Go.bits .and .i64 a0_2 2) == 0) = true := beq_iff_eq.mpr c5
      have c5b1 : ((Go.bits .and .i64 a0_2 2) != 0) = false := bne_eq_false_iff_eq.mpr c5
      clear c5
      (first | rw [c5b0] | (simp only [i64_w, i32_w]; rw [c5b0]) | skip)
      have H' := Aside0.mk H
      clear H
      go_wp2
      go_meet
      case rel => exact ⟨_, (([] : List ByteArray)), H', ⟨by first | omega | exact Nat.le_refl _⟩, ⟨by first | exact Kd.R_nil _ _ _ _ _ | exact Kd.N_nil _ _ _ _ _ | exact Kd.V_nil _ _ _ _ _ | exact Kd.Q_nil _ _ _ _ _ | exact Kd.S_nil _ _ _ _ _⟩, ⟨by (with_reducible repeat (first | refine blk_drewN ?_ _ | refine blk_drew ?_ | refine blk_alloc ?_ _)); exact BK357.out⟩, ⟨by repeat (first | (with_reducible first | exact HB.out | apply below_alloc | apply pw_below_drewN | apply below_drew1 | refine below_set ?_ GE357.out) | exact HB.out)⟩⟩
    · rw [if_neg c5] at H
      have c5b0 : ((Go.bits .and .i64 a0_2 2) == 0) = false := beq_eq_false_iff_ne.mpr c5
      have c5b1 : ((Go.bits .and .i64 a0_2 2) != 0) = true := bne_iff_ne.mpr c5
      (first | rw [c5b0] | (simp only [i64_w, i32_w]; rw [c5b0]) | skip)
      by_cases c6 : ([] : List ByteArray).length < 8796093022208
      · rw [if_pos c6] at H
        have LMc6 := Aside0.mk c6
        clear c6
        obtain ⟨y358, hy358⟩ : ∃ y_ : List ByteArray, y_ = (([] : List ByteArray) ++ [(⟨#[99, 105, 98, 97]⟩ : ByteArray)]) := ⟨_, rfl⟩
        replace H : (client_line.j0 k y358 a0_0 a0_1 a0_2 a0_3 a0_4 l0_5) = some r := by first | (rw [hy358]; with_reducible exact H) | (have H2_ := (Option.bind_some _ _).symm.trans H; rw [hy358]; with_reducible exact H2_) | (have H2_ := (Option.bind_some _ _).symm.trans H; with_reducible exact H2_) | with_reducible exact H | (rw [hy358]; exact H) | exact H
        have Ny358 := Aside0.mk hy358
        clear hy358
        have H' := Aside0.mk H
        clear H
        go_wp2_with (first | ((with_reducible refine gate_builtin (b := .append) (xs := #[.tmp 10, .tmp 11]) rfl ?_); at_builtin; refine Kd.R_append Kd.string (w0 := w) w.heap.size rfl (.tmp 10) (.tmp 11) 38 9 (.string ⟨#[]⟩) 16 rfl Tryz.underlying38 info9 rfl (by decide) (by omega) (.slice none 0 0) ([] : List ByteArray) (⟨#[99, 105, 98, 97]⟩ : ByteArray) [.string (⟨#[99, 105, 98, 97]⟩ : ByteArray)] (fun _ => True) (fun _ => False) rfl rfl ?aP (fun _ hk => hk.elim) ?aF ?aO ?aB ?aS ?aL ?_; (case aP => exact rfl); (case aB => exact (by repeat (first | (with_reducible first | exact HB.out | apply below_alloc | apply pw_below_drewN | apply below_drew1 | refine below_set ?_ GE357.out) | exact HB.out))); (case aF => exact (fun _ _ => trivial)); (case aO => exact ((Kd.R_nil _ _ _ _ (fun _ => True)))); (case aS => exact (below_size (by repeat (first | (with_reducible first | exact HB.out | apply below_alloc | apply pw_below_drewN | apply below_drew1 | refine below_set ?_ GE357.out) | exact HB.out)))); (case aL => have := LMc6.out; omega); intro v359 w7 ho hb hg hat; rw [← Ny358.out] at ho; have n0_ := Aside0.mk (blk_grown (g := gb357) (o := .cells #[.string a0_0, .string a0_1, .int .i64 a0_2, .bool a0_3, .string a0_4, .slice A0_5 l0_5.length c0_5] 40 (0, 0)) (by (with_reducible repeat (first | refine blk_drewN ?_ _ | refine blk_drew ?_ | refine blk_alloc ?_ _)); exact BK357.out) hg (by simp [Value.ownBlock])); have n1_ := Aside0.mk (hb); have n2_ := Aside0.mk (ho); clear BK357; clear HB; have BK357 := n0_; have HB := n1_; have HO360 := n2_; clear n0_ n1_ n2_; clear ho hb hg hat))
        go_meet
        case rel => exact ⟨_, (y358), H', ⟨by first | omega | exact Nat.le_refl _⟩, ⟨by (with_reducible repeat (first | apply Kd.R_alloc | apply Kd.R_drewN | apply Kd.R_drew)); exact HO360.out⟩, ⟨by (with_reducible repeat (first | refine blk_drewN ?_ _ | refine blk_drew ?_ | refine blk_alloc ?_ _)); exact BK357.out⟩, ⟨by repeat (first | (with_reducible first | exact HB.out | apply below_alloc | apply pw_below_drewN | apply below_drew1 | refine below_set ?_ GE357.out) | exact HB.out)⟩⟩
      · rw [if_neg c6] at H
        exact absurd H (by simp)
  case rest =>
    clear HC2
    try clear p2
    try clear c4
    try clear c5
    try clear c5b0
    try clear c5b1
    try clear c6
    try clear hcz4_0
    try clear hcz4_1
    try clear hcz4_2
    try clear hcz4_3
    try clear hcz4_4
    try clear hcz4_5
    try clear hfz4_0
    try clear hfz4_1
    try clear hfz4_2
    try clear hfz4_3
    try clear hfz4_4
    try clear hfz4_5
    obtain ⟨kq, x3_1, HA, HJ1, HO_3, BK357, HB⟩ := hcut
    cases kq with
    | zero => exact absurd HA.out (by simp [client_line.j0])
    | succ kj1 =>
      have H := HA.out
      clear HA
      simp only [client_line.j0] at H
      have HC8 := Aside0.mk H
      clear H
      have hcz9_0 : wc.cell? ⟨gb357, 0, none⟩ = some (.string a0_0) := (blk_cell BK357.out 0).trans rfl
      have hcz9_1 : wc.cell? ⟨gb357, 1, none⟩ = some (.string a0_1) := (blk_cell BK357.out 1).trans rfl
      have hcz9_2 : wc.cell? ⟨gb357, 2, none⟩ = some (.int .i64 a0_2) := (blk_cell BK357.out 2).trans rfl
      have hcz9_3 : wc.cell? ⟨gb357, 3, none⟩ = some (.bool a0_3) := (blk_cell BK357.out 3).trans rfl
      have hcz9_4 : wc.cell? ⟨gb357, 4, none⟩ = some (.string a0_4) := (blk_cell BK357.out 4).trans rfl
      have hcz9_5 : wc.cell? ⟨gb357, 5, none⟩ = some (.slice A0_5 l0_5.length c0_5) := (blk_cell BK357.out 5).trans rfl
      have hfz9_0 := blk_frozen BK357.out 0
      have hfz9_1 := blk_frozen BK357.out 1
      have hfz9_2 := blk_frozen BK357.out 2
      have hfz9_3 := blk_frozen BK357.out 3
      have hfz9_4 := blk_frozen BK357.out 4
      have hfz9_5 := blk_frozen BK357.out 5
      go_upto_if 16 with (fail)
      go_cut [3] (fun v3 wc => ∃ (kq : Nat) (x3_7 : List ByteArray), Aside0 (client_line.j1 kq x3_7 a0_0 a0_1 a0_2 a0_3 a0_4 l0_5 = some r) ∧ Aside0 (kq ≤ kj1) ∧ Aside0 (Kd.R Kd.string 9 wc w.heap.size (fun _ => True) v3 x3_7) ∧ Aside0 (wc.heap[gb357]? = some (.cells #[.string a0_0, .string a0_1, .int .i64 a0_2, .bool a0_3, .string a0_4, (.slice A0_5 l0_5.length c0_5)] 40 (0, 0))) ∧ Aside0 (Below w.heap.size w wc))
      case first =>
        have H := HC8.out
        clear HC8
        by_cases c10 : (Go.bits .and .i64 a0_2 1) = 0
        · rw [if_pos c10] at H
          have c10b0 : ((Go.bits .and .i64 a0_2 1) == 0) = true := beq_iff_eq.mpr c10
          have c10b1 : ((Go.bits .and .i64 a0_2 1) != 0) = false := bne_eq_false_iff_eq.mpr c10
          clear c10
          (first | rw [c10b0] | (simp only [i64_w, i32_w]; rw [c10b0]) | skip)
          have H' := Aside0.mk H
          clear H
          go_wp2
          go_meet
          case rel => exact ⟨_, (x3_1), H', ⟨by have := HJ1.out; first | omega | exact Nat.le_refl _⟩, ⟨by (with_reducible repeat (first | apply Kd.R_alloc | apply Kd.R_drewN | apply Kd.R_drew)); exact HO_3.out⟩, ⟨by (with_reducible repeat (first | refine blk_drewN ?_ _ | refine blk_drew ?_ | refine blk_alloc ?_ _)); exact BK357.out⟩, ⟨by repeat (first | (with_reducible first | exact HB.out | apply below_alloc | apply pw_below_drewN | apply below_drew1 | refine below_set ?_ GE357.out) | exact HB.out)⟩⟩
        · rw [if_neg c10] at H
          have c10b0 : ((Go.bits .and .i64 a0_2 1) == 0) = false := beq_eq_false_iff_ne.mpr c10
          have c10b1 : ((Go.bits .and .i64 a0_2 1) != 0) = true := bne_iff_ne.mpr c10
          (first | rw [c10b0] | (simp only [i64_w, i32_w]; rw [c10b0]) | skip)
          by_cases c11 : x3_1.length < 8796093022208
          · rw [if_pos c11] at H
            have LMc11 := Aside0.mk c11
            clear c11
            obtain ⟨y361, hy361⟩ : ∃ y_ : List ByteArray, y_ = (x3_1 ++ [(⟨#[100, 101, 118, 105, 99, 101]⟩ : ByteArray)]) := ⟨_, rfl⟩
            replace H : (client_line.j1 kj1 y361 a0_0 a0_1 a0_2 a0_3 a0_4 l0_5) = some r := by first | (rw [hy361]; with_reducible exact H) | (have H2_ := (Option.bind_some _ _).symm.trans H; rw [hy361]; with_reducible exact H2_) | (have H2_ := (Option.bind_some _ _).symm.trans H; with_reducible exact H2_) | with_reducible exact H | (rw [hy361]; exact H) | exact H
            have Ny361 := Aside0.mk hy361
            clear hy361
            have H' := Aside0.mk H
            clear H
            go_wp2_with (first | ((with_reducible refine gate_builtin (b := .append) (xs := #[.tmp 17, .tmp 18]) rfl ?_); at_builtin; refine Kd.R_append Kd.string (w0 := w) w.heap.size rfl (.tmp 17) (.tmp 18) 38 9 (.string ⟨#[]⟩) 16 rfl Tryz.underlying38 info9 rfl (by decide) (by omega) u3 x3_1 (⟨#[100, 101, 118, 105, 99, 101]⟩ : ByteArray) [.string (⟨#[100, 101, 118, 105, 99, 101]⟩ : ByteArray)] (fun _ => True) (fun _ => False) rfl rfl ?aP (fun _ hk => hk.elim) ?aF ?aO ?aB ?aS ?aL ?_; (case aP => exact rfl); (case aB => exact (by repeat (first | (with_reducible first | exact HB.out | apply below_alloc | apply pw_below_drewN | apply below_drew1 | refine below_set ?_ GE357.out) | exact HB.out))); (case aF => exact (fun _ _ => trivial)); (case aO => exact (by (with_reducible repeat (first | apply Kd.R_alloc | apply Kd.R_drewN | apply Kd.R_drew)); exact HO_3.out)); (case aS => exact (below_size (by repeat (first | (with_reducible first | exact HB.out | apply below_alloc | apply pw_below_drewN | apply below_drew1 | refine below_set ?_ GE357.out) | exact HB.out)))); (case aL => have := LMc11.out; omega); intro v362 w12 ho hb hg hat; rw [← Ny361.out] at ho; have n0_ := Aside0.mk (blk_grown (g := gb357) (o := .cells #[.string a0_0, .string a0_1, .int .i64 a0_2, .bool a0_3, .string a0_4, .slice A0_5 l0_5.length c0_5] 40 (0, 0)) (by (with_reducible repeat (first | refine blk_drewN ?_ _ | refine blk_drew ?_ | refine blk_alloc ?_ _)); exact BK357.out) hg (Kd.R_ne HO_3.out BK357.out (by decide))); have n1_ := Aside0.mk (hb); have n2_ := Aside0.mk (ho); clear BK357; clear HB; clear HO_3; have BK357 := n0_; have HB := n1_; have HO363 := n2_; clear n0_ n1_ n2_; clear ho hb hg hat))
            go_meet
            case rel => exact ⟨_, (y361), H', ⟨by have := HJ1.out; first | omega | exact Nat.le_refl _⟩, ⟨by (with_reducible repeat (first | apply Kd.R_alloc | apply Kd.R_drewN | apply Kd.R_drew)); exact HO363.out⟩, ⟨by (with_reducible repeat (first | refine blk_drewN ?_ _ | refine blk_drew ?_ | refine blk_alloc ?_ _)); exact BK357.out⟩, ⟨by repeat (first | (with_reducible first | exact HB.out | apply below_alloc | apply pw_below_drewN | apply below_drew1 | refine below_set ?_ GE357.out) | exact HB.out)⟩⟩
          · rw [if_neg c11] at H
            exact absurd H (by simp)
      case rest =>
        clear HC8
        try clear c1
        try clear p2
        try clear c4
        try clear c5
        try clear c5b0
        try clear c5b1
        try clear c6
        try clear c10
        try clear c10b0
        try clear c10b1
        try clear c11
        try clear hcz4_0
        try clear hcz4_1
        try clear hcz4_2
        try clear hcz4_3
        try clear hcz4_4
        try clear hcz4_5
        try clear hcz9_0
        try clear hcz9_1
        try clear hcz9_2
        try clear hcz9_3
        try clear hcz9_4
        try clear hcz9_5
        try clear hfz4_0
        try clear hfz4_1
        try clear hfz4_2
        try clear hfz4_3
        try clear hfz4_4
        try clear hfz4_5
        try clear hfz9_0
        try clear hfz9_1
        try clear hfz9_2
        try clear hfz9_3
        try clear hfz9_4
        try clear hfz9_5
        try clear p2
        obtain ⟨kq, x3_7, HA, HJ7, HO_3, BK357, HB⟩ := hcut
        cases kq with
        | zero => exact absurd HA.out (by simp [client_line.j1])
        | succ kj7 =>
          have H := HA.out
          clear HA
          simp only [client_line.j1] at H
          have HC13 := Aside0.mk H
          clear H
          have hcz14_0 : wc.cell? ⟨gb357, 0, none⟩ = some (.string a0_0) := (blk_cell BK357.out 0).trans rfl
          have hcz14_1 : wc.cell? ⟨gb357, 1, none⟩ = some (.string a0_1) := (blk_cell BK357.out 1).trans rfl
          have hcz14_2 : wc.cell? ⟨gb357, 2, none⟩ = some (.int .i64 a0_2) := (blk_cell BK357.out 2).trans rfl
          have hcz14_3 : wc.cell? ⟨gb357, 3, none⟩ = some (.bool a0_3) := (blk_cell BK357.out 3).trans rfl
          have hcz14_4 : wc.cell? ⟨gb357, 4, none⟩ = some (.string a0_4) := (blk_cell BK357.out 4).trans rfl
          have hcz14_5 : wc.cell? ⟨gb357, 5, none⟩ = some (.slice A0_5 l0_5.length c0_5) := (blk_cell BK357.out 5).trans rfl
          have hfz14_0 := blk_frozen BK357.out 0
          have hfz14_1 := blk_frozen BK357.out 1
          have hfz14_2 := blk_frozen BK357.out 2
          have hfz14_3 := blk_frozen BK357.out 3
          have hfz14_4 := blk_frozen BK357.out 4
          have hfz14_5 := blk_frozen BK357.out 5
          go_upto_if 21 with (fail)
          go_cut [4] (fun v4 wc => ∃ (kq : Nat) (x4_12 : ByteArray), v4 = .string x4_12 ∧ Aside0 (client_line.j2 kq x3_7 x4_12 a0_0 a0_1 a0_2 a0_3 a0_4 l0_5 = some r) ∧ Aside0 (kq ≤ kj7) ∧ Aside0 (Kd.R Kd.string 9 wc w.heap.size (fun _ => True) u3 x3_7) ∧ Aside0 (wc.heap[gb357]? = some (.cells #[.string a0_0, .string a0_1, .int .i64 a0_2, .bool a0_3, .string a0_4, (.slice A0_5 l0_5.length c0_5)] 40 (0, 0))) ∧ Aside0 (Below w.heap.size w wc))
          case first =>
            have H := HC13.out
            clear HC13
            by_cases c15 : a0_3 = true
            · subst c15
              have H1 : (client_line.j2 kj7 x3_7 (⟨#[121, 101, 115]⟩ : ByteArray) a0_0 a0_1 a0_2 true a0_4 l0_5) = some r := by rw [if_pos rfl] at H; exact H
              clear H
              have H := H1
              clear H1
              have H' := Aside0.mk H
              clear H
              go_wp2
              go_meet
              case rel => exact ⟨_, ((⟨#[121, 101, 115]⟩ : ByteArray)), (by first | rfl | (simp; done) | (simp [*]; done) | (simp; (generalize ByteArray.toList _ = z_); cases z_ <;> rfl)), H', ⟨by have := HJ1.out; have := HJ7.out; first | omega | exact Nat.le_refl _⟩, ⟨by (with_reducible repeat (first | apply Kd.R_alloc | apply Kd.R_drewN | apply Kd.R_drew)); exact HO_3.out⟩, ⟨by (with_reducible repeat (first | refine blk_drewN ?_ _ | refine blk_drew ?_ | refine blk_alloc ?_ _)); exact BK357.out⟩, ⟨by repeat (first | (with_reducible first | exact HB.out | apply below_alloc | apply pw_below_drewN | apply below_drew1 | refine below_set ?_ GE357.out) | exact HB.out)⟩⟩
            · replace c15 := Bool.eq_false_iff.mpr c15
              subst c15
              have H1 : (client_line.j2 kj7 x3_7 (⟨#[]⟩ : ByteArray) a0_0 a0_1 a0_2 false a0_4 l0_5) = some r := by rw [if_neg (show ¬ (false = true) by decide)] at H; exact H
              clear H
              have H := H1
              clear H1
              have H' := Aside0.mk H
              clear H
              go_wp2
              go_meet
              case rel => exact ⟨_, ((⟨#[]⟩ : ByteArray)), (by first | rfl | (simp; done) | (simp [*]; done) | (simp; (generalize ByteArray.toList _ = z_); cases z_ <;> rfl)), H', ⟨by have := HJ1.out; have := HJ7.out; first | omega | exact Nat.le_refl _⟩, ⟨by (with_reducible repeat (first | apply Kd.R_alloc | apply Kd.R_drewN | apply Kd.R_drew)); exact HO_3.out⟩, ⟨by (with_reducible repeat (first | refine blk_drewN ?_ _ | refine blk_drew ?_ | refine blk_alloc ?_ _)); exact BK357.out⟩, ⟨by repeat (first | (with_reducible first | exact HB.out | apply below_alloc | apply pw_below_drewN | apply below_drew1 | refine below_set ?_ GE357.out) | exact HB.out)⟩⟩
          case rest =>
            clear HC13
            try clear c1
            try clear p2
            try clear c4
            try clear c5
            try clear c5b0
            try clear c5b1
            try clear c6
            try clear c10
            try clear c10b0
            try clear c10b1
            try clear c11
            try clear c15
            try clear hcz14_0
            try clear hcz14_1
            try clear hcz14_2
            try clear hcz14_3
            try clear hcz14_4
            try clear hcz14_5
            try clear hcz4_0
            try clear hcz4_1
            try clear hcz4_2
            try clear hcz4_3
            try clear hcz4_4
            try clear hcz4_5
            try clear hcz9_0
            try clear hcz9_1
            try clear hcz9_2
            try clear hcz9_3
            try clear hcz9_4
            try clear hcz9_5
            try clear hfz14_0
            try clear hfz14_1
            try clear hfz14_2
            try clear hfz14_3
            try clear hfz14_4
            try clear hfz14_5
            try clear hfz4_0
            try clear hfz4_1
            try clear hfz4_2
            try clear hfz4_3
            try clear hfz4_4
            try clear hfz4_5
            try clear hfz9_0
            try clear hfz9_1
            try clear hfz9_2
            try clear hfz9_3
            try clear hfz9_4
            try clear hfz9_5
            try clear p2
            obtain ⟨kq, x4_12, rfl, HA, HJ12, HO_3, BK357, HB⟩ := hcut
            cases kq with
            | zero => exact absurd HA.out (by simp [client_line.j2])
            | succ kj12 =>
              have H := HA.out
              clear HA
              simp only [client_line.j2] at H
              replace H := Option.bind_eq_some_iff.mp H
              obtain ⟨t364, A160, H⟩ := H
              replace H : ((strings_Join.f l0_5 (⟨#[32]⟩ : ByteArray)).bind fun t365 => ((api_Pair.f (([(⟨(⟨#[105, 100]⟩ : ByteArray), a0_0⟩ : S68), (⟨(⟨#[115, 101, 99, 114, 101, 116]⟩ : ByteArray), a0_1⟩ : S68), (⟨(⟨#[103, 114, 97, 110, 116, 115]⟩ : ByteArray), t364⟩ : S68), (⟨(⟨#[112, 105, 110, 103]⟩ : ByteArray), x4_12⟩ : S68), (⟨(⟨#[117, 114, 108]⟩ : ByteArray), a0_4⟩ : S68), (⟨(⟨#[115, 99, 111, 112, 101]⟩ : ByteArray), t365⟩ : S68)] : List (S68)))).bind fun t369 => ((urlform_Print.f t369).bind fun t372 => (if t372.size + 1 ≤ 9223372036854775807 then (some (t372 ++ (⟨#[10]⟩ : ByteArray))) else (none))))) = some r := H
              have A16 := Aside0.mk A160
              clear A160
              replace H := Option.bind_eq_some_iff.mp H
              obtain ⟨t365, A170, H⟩ := H
              replace H : ((api_Pair.f (([(⟨(⟨#[105, 100]⟩ : ByteArray), a0_0⟩ : S68), (⟨(⟨#[115, 101, 99, 114, 101, 116]⟩ : ByteArray), a0_1⟩ : S68), (⟨(⟨#[103, 114, 97, 110, 116, 115]⟩ : ByteArray), t364⟩ : S68), (⟨(⟨#[112, 105, 110, 103]⟩ : ByteArray), x4_12⟩ : S68), (⟨(⟨#[117, 114, 108]⟩ : ByteArray), a0_4⟩ : S68), (⟨(⟨#[115, 99, 111, 112, 101]⟩ : ByteArray), t365⟩ : S68)] : List (S68)))).bind fun t369 => ((urlform_Print.f t369).bind fun t372 => (if t372.size + 1 ≤ 9223372036854775807 then (some (t372 ++ (⟨#[10]⟩ : ByteArray))) else (none)))) = some r := H
              have A17 := Aside0.mk A170
              clear A170
              obtain ⟨y366, hy366⟩ : ∃ y_ : List (S68), y_ = (([(⟨(⟨#[105, 100]⟩ : ByteArray), a0_0⟩ : S68), (⟨(⟨#[115, 101, 99, 114, 101, 116]⟩ : ByteArray), a0_1⟩ : S68), (⟨(⟨#[103, 114, 97, 110, 116, 115]⟩ : ByteArray), t364⟩ : S68), (⟨(⟨#[112, 105, 110, 103]⟩ : ByteArray), x4_12⟩ : S68), (⟨(⟨#[117, 114, 108]⟩ : ByteArray), a0_4⟩ : S68), (⟨(⟨#[115, 99, 111, 112, 101]⟩ : ByteArray), t365⟩ : S68)] : List (S68))) := ⟨_, rfl⟩
              replace H : ((api_Pair.f y366).bind fun t369 => ((urlform_Print.f t369).bind fun t372 => (if t372.size + 1 ≤ 9223372036854775807 then (some (t372 ++ (⟨#[10]⟩ : ByteArray))) else (none)))) = some r := by first | (rw [hy366]; with_reducible exact H) | (have H2_ := (Option.bind_some _ _).symm.trans H; rw [hy366]; with_reducible exact H2_) | (have H2_ := (Option.bind_some _ _).symm.trans H; with_reducible exact H2_) | with_reducible exact H | (rw [hy366]; exact H) | exact H
              have Ny366 := Aside0.mk hy366
              clear hy366
              replace H := Option.bind_eq_some_iff.mp H
              obtain ⟨t369, A180, H⟩ := H
              replace H : ((urlform_Print.f t369).bind fun t372 => (if t372.size + 1 ≤ 9223372036854775807 then (some (t372 ++ (⟨#[10]⟩ : ByteArray))) else (none))) = some r := H
              have A18 := Aside0.mk A180
              clear A180
              replace H := Option.bind_eq_some_iff.mp H
              obtain ⟨t372, A190, H⟩ := H
              replace H : (if t372.size + 1 ≤ 9223372036854775807 then (some (t372 ++ (⟨#[10]⟩ : ByteArray))) else (none)) = some r := H
              have A19 := Aside0.mk A190
              clear A190
              by_cases c20 : t372.size + 1 ≤ 9223372036854775807
              · rw [if_pos c20] at H
                have c20b0 := eq_true c20
                have c20b1 : decide (t372.size + 1 ≤ 9223372036854775807) = true := decide_eq_true c20
                try have c20b2 : (9223372036854775807 < t372.size + 1) = False := eq_false (Nat.not_lt.2 c20)
                obtain rfl := Option.some.inj H
                try go_wp2
                have n0_ := Aside0.mk (Kd.R_drew HO_3.out)
                have n1_ := Aside0.mk (blk_drew BK357.out)
                have n2_ := Aside0.mk (below_drew1 HB.out)
                clear HO_3
                clear BK357
                clear HB
                have HO_3 := n0_
                have BK357 := n1_
                have HB := n2_
                clear n0_ n1_ n2_
                obtain ⟨Ao22, co22, eo22⟩ := Kd.R_slice HO_3.out
                (first | subst eo22 | (injection eo22 with f1_ f2_ f3_; have f4_ := f1_.symm; have f5_ := f3_.symm; clear f1_ f2_ f3_; subst f4_; subst f5_))
                refine start_ (n := 20) (S := fun w' => w'.cell? ⟨gb357, 0, none⟩ = some (.string a0_0) ∧ w'.cell? ⟨gb357, 1, none⟩ = some (.string a0_1) ∧ w'.cell? ⟨gb357, 2, none⟩ = some (.int .i64 a0_2) ∧ w'.cell? ⟨gb357, 3, none⟩ = some (.bool a0_3) ∧ w'.cell? ⟨gb357, 4, none⟩ = some (.string a0_4) ∧ w'.cell? ⟨gb357, 5, none⟩ = some (.slice A0_5 l0_5.length c0_5)) (ds := []) #[false, false, false, false, false, false, false, false, false, false, false, false, false, false, false, false, false, false, false, false] (by kernel_rfl) rfl rfl ⟨(blk_cell BK357.out 0).trans rfl, (blk_cell BK357.out 1).trans rfl, (blk_cell BK357.out 2).trans rfl, (blk_cell BK357.out 3).trans rfl, (blk_cell BK357.out 4).trans rfl, (blk_cell BK357.out 5).trans rfl⟩ (fun hHeld => ?_); refine with_tabW client_line.tab9 client_line.bits9 (fun HT_ HW_ => ?_)
                generalize wc.drew = w21 at HO_3 BK357 HB hHeld ⊢
                refine pure_ (i := 0) (N := some 22) (v := ?_) (a' := ?_) #[true, false, false, false, false, false, false, false, false, false, false, false, false, false, false, false, false, false, false, false] rfl rfl (any_of HT_.out (by kernel_rfl)) (fun _ _ _ h => h) (Or.inl ⟨by rfl, ?_⟩) ?_ ?_
                rotate_left
                · intro w'
                  go_simp
                  with_reducible rfl
                rotate_left
                · simp only [Act.put, List.setIfInBounds_toArray, List.set_cons_zero, List.set_cons_succ, i64_w, i32_w]
                  rfl
                refine pure_ (i := 3) (N := some 25) (v := ?_) (a' := ?_) #[true, false, false, true, false, false, false, false, false, false, false, false, false, false, false, false, false, false, false, false] rfl rfl (any_of HT_.out (by kernel_rfl)) (fun _ _ _ h => h) (Or.inl ⟨by rfl, ?_⟩) ?_ ?_
                rotate_left
                · intro w'
                  go_simp
                  with_reducible rfl
                rotate_left
                · simp only [Act.put, List.setIfInBounds_toArray, List.set_cons_zero, List.set_cons_succ, i64_w, i32_w]
                  rfl
                refine pure_ (i := 6) (N := some 28) (v := ?_) (a' := ?_) #[true, false, false, true, false, false, true, false, false, false, false, false, false, false, false, false, false, false, false, false] rfl rfl (any_of HT_.out (by kernel_rfl)) (fun _ _ _ h => h) (Or.inl ⟨by rfl, ?_⟩) ?_ ?_
                rotate_left
                · intro w'
                  go_simp
                  with_reducible rfl
                rotate_left
                · simp only [Act.put, List.setIfInBounds_toArray, List.set_cons_zero, List.set_cons_succ, i64_w, i32_w]
                  rfl
                refine pure_ (i := 9) (N := some 31) (v := ?_) (a' := ?_) #[true, false, false, true, false, false, true, false, false, true, false, false, false, false, false, false, false, false, false, false] rfl rfl (any_of HT_.out (by kernel_rfl)) (fun _ _ _ h => h) (Or.inl ⟨by rfl, ?_⟩) ?_ ?_
                rotate_left
                · intro w'
                  go_simp
                  with_reducible rfl
                rotate_left
                · simp only [Act.put, List.setIfInBounds_toArray, List.set_cons_zero, List.set_cons_succ, i64_w, i32_w]
                  rfl
                refine pure_ (i := 10) (N := some 32) (v := ?_) (a' := ?_) #[true, false, false, true, false, false, true, false, false, true, true, false, false, false, false, false, false, false, false, false] rfl rfl (any_of HT_.out (by kernel_rfl)) (fun _ _ _ h => h) (Or.inl ⟨by rfl, ?_⟩) ?_ ?_
                rotate_left
                · intro w'
                  go_simp
                  with_reducible rfl
                rotate_left
                · simp only [Act.put, List.setIfInBounds_toArray, List.set_cons_zero, List.set_cons_succ, i64_w, i32_w]
                  rfl
                refine pure_ (i := 11) (N := some 33) (v := ?_) (a' := ?_) #[true, false, false, true, false, false, true, false, false, true, true, true, false, false, false, false, false, false, false, false] rfl rfl (any_of HT_.out (by kernel_rfl)) (fun _ _ _ h => h) (Or.inl ⟨by rfl, ?_⟩) ?_ ?_
                rotate_left
                · intro w'
                  go_simp
                  with_reducible rfl
                rotate_left
                · simp only [Act.put, List.setIfInBounds_toArray, List.set_cons_zero, List.set_cons_succ, i64_w, i32_w]
                  rfl
                refine pure_ (i := 14) (N := some 36) (v := ?_) (a' := ?_) #[true, false, false, true, false, false, true, false, false, true, true, true, false, false, true, false, false, false, false, false] rfl rfl (any_of HT_.out (by kernel_rfl)) (fun _ _ _ h => h) (Or.inl ⟨by rfl, ?_⟩) ?_ ?_
                rotate_left
                · intro w'
                  go_simp
                  with_reducible rfl
                rotate_left
                · simp only [Act.put, List.setIfInBounds_toArray, List.set_cons_zero, List.set_cons_succ, i64_w, i32_w]
                  rfl
                refine take_ (i := 1) (N := some 23) (v := ?_) (a' := ?_) #[true, true, false, true, false, false, true, false, false, true, true, true, false, false, true, false, false, false, false, false] rfl rfl (take_ofW HT_.out HW_.out (by kernel_rfl)) (fun _ _ _ h => h) (Or.inl ⟨by rfl, ?_⟩) hHeld ?_ ?_
                rotate_left
                · rintro w' ⟨s0, s1, s2, s3, s4, s5⟩
                  go_simp
                  with_reducible rfl
                rotate_left
                · simp only [Act.put, List.setIfInBounds_toArray, List.set_cons_zero, List.set_cons_succ, i64_w, i32_w]
                  rfl
                refine pure_ (i := 2) (N := some 24) (v := ?_) (a' := ?_) #[true, true, true, true, false, false, true, false, false, true, true, true, false, false, true, false, false, false, false, false] rfl rfl (any_of HT_.out (by kernel_rfl)) (fun _ _ _ h => h) (Or.inl ⟨by rfl, ?_⟩) ?_ ?_
                rotate_left
                · intro w'
                  go_simp
                  with_reducible rfl
                rotate_left
                · simp only [Act.put, List.setIfInBounds_toArray, List.set_cons_zero, List.set_cons_succ, i64_w, i32_w]
                  rfl
                refine take_ (i := 4) (N := some 26) (v := ?_) (a' := ?_) #[true, true, true, true, true, false, true, false, false, true, true, true, false, false, true, false, false, false, false, false] rfl rfl (take_ofW HT_.out HW_.out (by kernel_rfl)) (fun _ _ _ h => h) (Or.inl ⟨by rfl, ?_⟩) hHeld ?_ ?_
                rotate_left
                · rintro w' ⟨s0, s1, s2, s3, s4, s5⟩
                  go_simp
                  with_reducible rfl
                rotate_left
                · simp only [Act.put, List.setIfInBounds_toArray, List.set_cons_zero, List.set_cons_succ, i64_w, i32_w]
                  rfl
                refine pure_ (i := 5) (N := some 27) (v := ?_) (a' := ?_) #[true, true, true, true, true, true, true, false, false, true, true, true, false, false, true, false, false, false, false, false] rfl rfl (any_of HT_.out (by kernel_rfl)) (fun _ _ _ h => h) (Or.inl ⟨by rfl, ?_⟩) ?_ ?_
                rotate_left
                · intro w'
                  go_simp
                  with_reducible rfl
                rotate_left
                · simp only [Act.put, List.setIfInBounds_toArray, List.set_cons_zero, List.set_cons_succ, i64_w, i32_w]
                  rfl
                refine take_ (i := 12) (N := some 34) (v := ?_) (a' := ?_) #[true, true, true, true, true, true, true, false, false, true, true, true, true, false, true, false, false, false, false, false] rfl rfl (take_ofW HT_.out HW_.out (by kernel_rfl)) (fun _ _ _ h => h) (Or.inl ⟨by rfl, ?_⟩) hHeld ?_ ?_
                rotate_left
                · rintro w' ⟨s0, s1, s2, s3, s4, s5⟩
                  go_simp
                  with_reducible rfl
                rotate_left
                · simp only [Act.put, List.setIfInBounds_toArray, List.set_cons_zero, List.set_cons_succ, i64_w, i32_w]
                  rfl
                refine pure_ (i := 13) (N := some 35) (v := ?_) (a' := ?_) #[true, true, true, true, true, true, true, false, false, true, true, true, true, true, true, false, false, false, false, false] rfl rfl (any_of HT_.out (by kernel_rfl)) (fun _ _ _ h => h) (Or.inl ⟨by rfl, ?_⟩) ?_ ?_
                rotate_left
                · intro w'
                  go_simp
                  with_reducible rfl
                rotate_left
                · simp only [Act.put, List.setIfInBounds_toArray, List.set_cons_zero, List.set_cons_succ, i64_w, i32_w]
                  rfl
                refine take_ (i := 15) (N := some 37) (v := ?_) (a' := ?_) #[true, true, true, true, true, true, true, false, false, true, true, true, true, true, true, true, false, false, false, false] rfl rfl (take_ofW HT_.out HW_.out (by kernel_rfl)) (fun _ _ _ h => h) (Or.inl ⟨by rfl, ?_⟩) hHeld ?_ ?_
                rotate_left
                · rintro w' ⟨s0, s1, s2, s3, s4, s5⟩
                  go_simp
                  with_reducible rfl
                rotate_left
                · simp only [Act.put, List.setIfInBounds_toArray, List.set_cons_zero, List.set_cons_succ, i64_w, i32_w]
                  rfl
                refine one_ (i := 7) (N := some 29) #[true, true, true, true, true, true, true, true, false, true, true, true, true, true, true, true, false, false, false, false] rfl rfl (one_of HT_.out (by kernel_rfl)) (by decide) (fun K hK => ?_)
                refine goes_ Tryz.func55 (by kernel_rfl) rfl #[.slice Ao22 x3_7.length co22, .string (⟨#[32]⟩ : ByteArray)] (by rfl) rfl rfl (by (try simp only [List.map_toArray, List.map_cons, List.map_nil]); first | done | rfl | (simp only [List.length_drop, List.length_take]; rfl)) ?_
                with_reducible refine (strings_Join.calls _ _ x3_7 (⟨#[32]⟩ : ByteArray) t364 _ ?side1 ?side2 A16.out).mono ?_
                (case side1 => repeat (first | exact (Kd.R_reads' HO_3.out).2.2 | (with_reducible refine Kd.C_alloc ?_ _) | (with_reducible refine Kd.C_drewN ?_ _) | (with_reducible refine Kd.C_drew ?_)))
                (case side2 => exact (Kd.R_reads' HO_3.out).2.1)
                rintro e w23 ⟨rfl, hb⟩
                refine ⟨_, rfl, ?_⟩
                have n0_ := Aside0.mk (Kd.R_below (by (with_reducible repeat (first | apply Kd.R_alloc | apply Kd.R_drewN | apply Kd.R_drew)); exact HO_3.out) hb)
                have n1_ := Aside0.mk (blk_below (g := gb357) (o := .cells #[.string a0_0, .string a0_1, .int .i64 a0_2, .bool a0_3, .string a0_4, .slice A0_5 l0_5.length c0_5] 40 (0, 0)) (by (with_reducible repeat (first | refine blk_drewN ?_ _ | refine blk_drew ?_ | refine blk_alloc ?_ _)); exact BK357.out) hb)
                have n2_ := Aside0.mk (below_step (by repeat (first | (with_reducible first | exact HB.out | apply below_alloc | apply pw_below_drewN | apply below_drew1 | refine below_set ?_ GE357.out) | exact HB.out)) hb)
                clear HO_3
                clear BK357
                clear HB
                have HO_3 := n0_
                have BK357 := n1_
                have HB := n2_
                clear n0_ n1_ n2_
                (try clear hb)
                (try clear hb2)
                (try clear hk)
                (try clear hi)
                refine hK.out _ _ ⟨(blk_cell BK357.out 0).trans rfl, (blk_cell BK357.out 1).trans rfl, (blk_cell BK357.out 2).trans rfl, (blk_cell BK357.out 3).trans rfl, (blk_cell BK357.out 4).trans rfl, (blk_cell BK357.out 5).trans rfl⟩ (fun hHeld => ?_)
                clear hK K
                refine norm_ (a' := ?_) ?_ ?_
                rotate_left
                · show Act.put _ (some 29) _ = _
                  simp only [Act.put, List.setIfInBounds_toArray, List.set_cons_zero, List.set_cons_succ, i64_w, i32_w]
                  rfl
                refine pure_ (i := 8) (N := some 30) (v := ?_) (a' := ?_) #[true, true, true, true, true, true, true, true, true, true, true, true, true, true, true, true, false, false, false, false] rfl rfl (any_of HT_.out (by kernel_rfl)) (fun _ _ _ h => h) (Or.inl ⟨by rfl, ?_⟩) ?_ ?_
                rotate_left
                · intro w'
                  go_simp
                  with_reducible rfl
                rotate_left
                · simp only [Act.put, List.setIfInBounds_toArray, List.set_cons_zero, List.set_cons_succ, i64_w, i32_w]
                  rfl
                refine one_ (i := 16) (N := some 38) #[true, true, true, true, true, true, true, true, true, true, true, true, true, true, true, true, true, false, false, false] rfl rfl (one_of HT_.out (by kernel_rfl)) (by decide) (fun K hK => ?_)
                refine goes_ Tryz.func55 (by kernel_rfl) rfl #[.slice A0_5 l0_5.length c0_5, .string (⟨#[32]⟩ : ByteArray)] (by rfl) rfl rfl (by (try simp only [List.map_toArray, List.map_cons, List.map_nil]); first | done | rfl | (simp only [List.length_drop, List.length_take]; rfl)) ?_
                with_reducible refine (strings_Join.calls _ _ l0_5 (⟨#[32]⟩ : ByteArray) t365 _ ?side1 ?side2 A17.out).mono ?_
                (case side1 => repeat (first | exact (Kd.C_below HR0_5.out HB.out) | (with_reducible refine Kd.C_alloc ?_ _) | (with_reducible refine Kd.C_drewN ?_ _) | (with_reducible refine Kd.C_drew ?_)))
                (case side2 => exact HC0_5.out)
                rintro e w24 ⟨rfl, hb⟩
                refine ⟨_, rfl, ?_⟩
                have n0_ := Aside0.mk (Kd.R_below (by (with_reducible repeat (first | apply Kd.R_alloc | apply Kd.R_drewN | apply Kd.R_drew)); exact HO_3.out) hb)
                have n1_ := Aside0.mk (blk_below (g := gb357) (o := .cells #[.string a0_0, .string a0_1, .int .i64 a0_2, .bool a0_3, .string a0_4, .slice A0_5 l0_5.length c0_5] 40 (0, 0)) (by (with_reducible repeat (first | refine blk_drewN ?_ _ | refine blk_drew ?_ | refine blk_alloc ?_ _)); exact BK357.out) hb)
                have n2_ := Aside0.mk (below_step (by repeat (first | (with_reducible first | exact HB.out | apply below_alloc | apply pw_below_drewN | apply below_drew1 | refine below_set ?_ GE357.out) | exact HB.out)) hb)
                clear HO_3
                clear BK357
                clear HB
                have HO_3 := n0_
                have BK357 := n1_
                have HB := n2_
                clear n0_ n1_ n2_
                (try clear hb)
                (try clear hb2)
                (try clear hk)
                (try clear hi)
                refine hK.out _ _ ⟨(blk_cell BK357.out 0).trans rfl, (blk_cell BK357.out 1).trans rfl, (blk_cell BK357.out 2).trans rfl, (blk_cell BK357.out 3).trans rfl, (blk_cell BK357.out 4).trans rfl, (blk_cell BK357.out 5).trans rfl⟩ (fun hHeld => ?_)
                clear hK K
                refine norm_ (a' := ?_) ?_ ?_
                rotate_left
                · show Act.put _ (some 38) _ = _
                  simp only [Act.put, List.setIfInBounds_toArray, List.set_cons_zero, List.set_cons_succ, i64_w, i32_w]
                  rfl
                refine pure_ (i := 17) (N := some 39) (v := ?_) (a' := ?_) #[true, true, true, true, true, true, true, true, true, true, true, true, true, true, true, true, true, true, false, false] rfl rfl (any_of HT_.out (by kernel_rfl)) (fun _ _ _ h => h) (Or.inl ⟨by rfl, ?_⟩) ?_ ?_
                rotate_left
                · intro w'
                  go_simp
                  with_reducible rfl
                rotate_left
                · simp only [Act.put, List.setIfInBounds_toArray, List.set_cons_zero, List.set_cons_succ, i64_w, i32_w]
                  rfl
                refine one_ (i := 18) (N := some 40) #[true, true, true, true, true, true, true, true, true, true, true, true, true, true, true, true, true, true, true, false] rfl rfl (one_of HT_.out (by kernel_rfl)) (by decide) (fun K hK => ?_)
                refine Kd.R_lit_step k68 _ 68 ?hg (N := 40) ?hd (xs := ([(⟨(⟨#[105, 100]⟩ : ByteArray), a0_0⟩ : S68), (⟨(⟨#[115, 101, 99, 114, 101, 116]⟩ : ByteArray), a0_1⟩ : S68), (⟨(⟨#[103, 114, 97, 110, 116, 115]⟩ : ByteArray), t364⟩ : S68), (⟨(⟨#[112, 105, 110, 103]⟩ : ByteArray), x4_12⟩ : S68), (⟨(⟨#[117, 114, 108]⟩ : ByteArray), a0_4⟩ : S68), (⟨(⟨#[115, 99, 111, 112, 101]⟩ : ByteArray), t365⟩ : S68)] : List (S68))) (inner := [.string (⟨#[105, 100]⟩ : ByteArray), .string a0_0, .string (⟨#[115, 101, 99, 114, 101, 116]⟩ : ByteArray), .string a0_1, .string (⟨#[103, 114, 97, 110, 116, 115]⟩ : ByteArray), .string t364, .string (⟨#[112, 105, 110, 103]⟩ : ByteArray), .string x4_12, .string (⟨#[117, 114, 108]⟩ : ByteArray), .string a0_4, .string (⟨#[115, 99, 111, 112, 101]⟩ : ByteArray), .string t365]) (ok := fun _ => True) (okp := fun _ => True) ?hr ?hp (fun _ hk => hk) trivial (Below.refl _ _) (Nat.le_refl _) (by simp) ?_; (case hd => rfl); (case hg => rfl); (case hr => first | (go_simp; done) | (go_simp; rfl)); (case hp => exact (Reps.c2 (show Kd.M k68 _ _ _ (⟨(⟨#[105, 100]⟩ : ByteArray), a0_0⟩ : S68) [.string (⟨#[105, 100]⟩ : ByteArray), .string a0_0] from (k68_mkM _ _ _ (⟨(⟨#[105, 100]⟩ : ByteArray), a0_0⟩ : S68) )) (Reps.c2 (show Kd.M k68 _ _ _ (⟨(⟨#[115, 101, 99, 114, 101, 116]⟩ : ByteArray), a0_1⟩ : S68) [.string (⟨#[115, 101, 99, 114, 101, 116]⟩ : ByteArray), .string a0_1] from (k68_mkM _ _ _ (⟨(⟨#[115, 101, 99, 114, 101, 116]⟩ : ByteArray), a0_1⟩ : S68) )) (Reps.c2 (show Kd.M k68 _ _ _ (⟨(⟨#[103, 114, 97, 110, 116, 115]⟩ : ByteArray), t364⟩ : S68) [.string (⟨#[103, 114, 97, 110, 116, 115]⟩ : ByteArray), .string t364] from (k68_mkM _ _ _ (⟨(⟨#[103, 114, 97, 110, 116, 115]⟩ : ByteArray), t364⟩ : S68) )) (Reps.c2 (show Kd.M k68 _ _ _ (⟨(⟨#[112, 105, 110, 103]⟩ : ByteArray), x4_12⟩ : S68) [.string (⟨#[112, 105, 110, 103]⟩ : ByteArray), .string x4_12] from (k68_mkM _ _ _ (⟨(⟨#[112, 105, 110, 103]⟩ : ByteArray), x4_12⟩ : S68) )) (Reps.c2 (show Kd.M k68 _ _ _ (⟨(⟨#[117, 114, 108]⟩ : ByteArray), a0_4⟩ : S68) [.string (⟨#[117, 114, 108]⟩ : ByteArray), .string a0_4] from (k68_mkM _ _ _ (⟨(⟨#[117, 114, 108]⟩ : ByteArray), a0_4⟩ : S68) )) (Reps.c2 (show Kd.M k68 _ _ _ (⟨(⟨#[115, 99, 111, 112, 101]⟩ : ByteArray), t365⟩ : S68) [.string (⟨#[115, 99, 111, 112, 101]⟩ : ByteArray), .string t365] from (k68_mkM _ _ _ (⟨(⟨#[115, 99, 111, 112, 101]⟩ : ByteArray), t365⟩ : S68) )) (Reps.none _ _))))))))
                intro v367 w25 ho26 hb hg_ hnew_
                clear hg_ hnew_
                (first | rw [← Ny366.out] at ho26 | (simp only [Int.reduceToNat] at ho26; rw [← Ny366.out] at ho26))
                have n0_ := Aside0.mk (Kd.R_below (by (with_reducible repeat (first | apply Kd.R_alloc | apply Kd.R_drewN | apply Kd.R_drew)); exact HO_3.out) hb)
                have n1_ := Aside0.mk (Kd.R_lower ho26 (below_size (by repeat (first | (with_reducible first | exact HB.out | apply below_alloc | apply pw_below_drewN | apply below_drew1 | refine below_set ?_ GE357.out) | exact HB.out))))
                have n2_ := Aside0.mk (blk_below (g := gb357) (o := .cells #[.string a0_0, .string a0_1, .int .i64 a0_2, .bool a0_3, .string a0_4, .slice A0_5 l0_5.length c0_5] 40 (0, 0)) (by (with_reducible repeat (first | refine blk_drewN ?_ _ | refine blk_drew ?_ | refine blk_alloc ?_ _)); exact BK357.out) hb)
                have n3_ := Aside0.mk (below_step (by repeat (first | (with_reducible first | exact HB.out | apply below_alloc | apply pw_below_drewN | apply below_drew1 | refine below_set ?_ GE357.out) | exact HB.out)) hb)
                clear HO_3
                clear BK357
                clear HB
                have HO_3 := n0_
                have HO368 := n1_
                have BK357 := n2_
                have HB := n3_
                clear n0_ n1_ n2_ n3_
                clear hb ho26
                refine hK.out _ _ ⟨(blk_cell BK357.out 0).trans rfl, (blk_cell BK357.out 1).trans rfl, (blk_cell BK357.out 2).trans rfl, (blk_cell BK357.out 3).trans rfl, (blk_cell BK357.out 4).trans rfl, (blk_cell BK357.out 5).trans rfl⟩ (fun hHeld => ?_)
                clear hK K
                refine norm_ (a' := ?_) ?_ ?_
                rotate_left
                · show Act.put _ (some 40) _ = _
                  simp only [Act.put, List.setIfInBounds_toArray, List.set_cons_zero, List.set_cons_succ, i64_w, i32_w]
                  rfl
                refine pure_ (i := 19) (N := some 5) (v := ?_) (a' := ?_) #[true, true, true, true, true, true, true, true, true, true, true, true, true, true, true, true, true, true, true, true] rfl rfl (any_of HT_.out (by kernel_rfl)) (fun _ _ _ h => h) (Or.inl ⟨by rfl, ?_⟩) ?_ ?_
                rotate_left
                · intro w'
                  go_simp
                  with_reducible rfl
                rotate_left
                · simp only [Act.put, List.setIfInBounds_toArray, List.set_cons_zero, List.set_cons_succ, i64_w, i32_w]
                  rfl
                refine done_ (done_of HT_.out (by kernel_rfl)) ?_
                obtain ⟨Ao27, co27, eo27⟩ := Kd.R_slice HO368.out
                subst eo27
                try go_wp2_with (first | ((with_reducible refine gate_callee (f := 78) rfl ?_); refine goesL_ (some 42) rfl rfl Tryz.func78 (by kernel_rfl) rfl #[.slice Ao27 y366.length co27, .func (.func 79) #[] #[]] rfl (by (try simp only [List.map_toArray, List.map_cons, List.map_nil]); first | done | rfl | (simp only [List.length_drop, List.length_take]; rfl)) ?_; (with_reducible refine (api_Pair.calls (fun k_ => some k_ = (.slice Ao27 y366.length co27 : Value).ownBlock) (.slice Ao27 y366.length co27) y366 t369 w _ ?side1 ?side2 A18.out).mono ?_); (case side1 => repeat (first | (with_reducible first | exact HB.out | apply below_alloc | apply pw_below_drewN | apply below_drew1 | refine below_set ?_ GE357.out) | exact HB.out)); (case side2 => exact Kd.R_tight rfl HO368.out); rintro e w28 ⟨v370, rfl, ho0, hb, hkp⟩; refine ⟨_, rfl, ?_⟩; have n0_ := Aside0.mk (Kd.R_mono (ok' := fun k_ => True) (Kd.R_keptB ((Kd.R_apart' HO_3.out (Kd.R_typed HO368.out) (by decide))) hkp (fun k_ hk_ hs_ => (hk_.2) hs_)) (fun k_ hk_ => trivial)); have n1_ := Aside0.mk (blk_kept (by (with_reducible repeat (first | refine blk_drewN ?_ _ | refine blk_drew ?_ | refine blk_alloc ?_ _)); exact BK357.out) hkp (fun hs_ => (fun e_ => (Kd.R_ne HO368.out BK357.out (by decide)) e_) hs_)); have n2_ := Aside0.mk (Kd.R_mono (ok' := fun k_ => True) ho0 (fun k_ hk_ => trivial)); have n3_ := Aside0.mk (hb); clear HO_3; clear BK357; clear HB; clear HO368; have HO_3 := n0_; have BK357 := n1_; have HO371 := n2_; have HB := n3_; clear n0_ n1_ n2_ n3_; (try clear hb); (try clear hkp); (try clear ho0); obtain ⟨Ao29, co29, eo29⟩ := Kd.R_slice HO371.out; subst eo29) | ((with_reducible refine gate_callee (f := 77) rfl ?_); refine goesL_ (some 43) rfl rfl Tryz.func77 (by kernel_rfl) rfl #[.slice Ao29 t369.length co29] rfl (by (try simp only [List.map_toArray, List.map_cons, List.map_nil]); first | done | rfl | (simp only [List.length_drop, List.length_take]; rfl)) ?_; (with_reducible refine (urlform_Print.calls _ _ t369 t372 _ ?side1 ?side2 A19.out).mono ?_); (case side1 => repeat (first | exact (Kd.R_reads' HO371.out).2.2 | (with_reducible refine Kd.C_alloc ?_ _) | (with_reducible refine Kd.C_drewN ?_ _) | (with_reducible refine Kd.C_drew ?_))); (case side2 => exact (Kd.R_reads' HO371.out).2.1); rintro e w30 ⟨rfl, hb⟩; refine ⟨_, rfl, ?_⟩; have n0_ := Aside0.mk (Kd.R_below (by (with_reducible repeat (first | apply Kd.R_alloc | apply Kd.R_drewN | apply Kd.R_drew)); exact HO_3.out) hb); have n1_ := Aside0.mk (Kd.R_below (by (with_reducible repeat (first | apply Kd.R_alloc | apply Kd.R_drewN | apply Kd.R_drew)); exact HO371.out) hb); have n2_ := Aside0.mk (blk_below (g := gb357) (o := .cells #[.string a0_0, .string a0_1, .int .i64 a0_2, .bool a0_3, .string a0_4, .slice A0_5 l0_5.length c0_5] 40 (0, 0)) (by (with_reducible repeat (first | refine blk_drewN ?_ _ | refine blk_drew ?_ | refine blk_alloc ?_ _)); exact BK357.out) hb); have n3_ := Aside0.mk (below_step (by repeat (first | (with_reducible first | exact HB.out | apply below_alloc | apply pw_below_drewN | apply below_drew1 | refine below_set ?_ GE357.out) | exact HB.out)) hb); clear HO_3; clear HO371; clear BK357; clear HB; have HO_3 := n0_; have HO371 := n1_; have BK357 := n2_; have HB := n3_; clear n0_ n1_ n2_ n3_; (try clear hb); (try clear hb2); (try clear hk); (try clear hi)))
                go_ret
                exact ⟨by first | rfl | (simp [errW_none, errW_some] <;> rfl) | (simp [*, errW_none, errW_some] <;> rfl) | (simp; (generalize ByteArray.toList _ = z_); cases z_ <;> rfl), by repeat (first | (with_reducible first | exact HB.out | apply below_alloc | apply pw_below_drewN | apply below_drew1 | refine below_set ?_ GE357.out) | exact HB.out)⟩
              · rw [if_neg c20] at H
                exact absurd H (by simp)
end Go.Proofs.YtmimipgmhgalaaaGreatDoor.PAll
end
section
namespace Go.Proofs.YtmimipgmhgalaaaGreatDoor.PAll
open Go.RowKit Go.Proofs.YtmimipgmhgalaaaGreatDoorW.PrintWords Go.Proofs.YtmimipgmhgalaaaGreatDoorW.PrintLast Go.Proofs.YtmimipgmhgalaaaGreatDoorW.PrintMore
attribute [local go_sem] max2_int min2_int max_two min_two max_three min_three max_four min_four
set_option linter.unusedVariables false
set_option linter.unusedSimpArgs false
mutual
def wicketref11_said.j0 : Nat → List ByteArray → ByteArray → ByteArray → ByteArray → Int → Bool → ByteArray → List ByteArray → Option (ByteArray)
  | 0, _, _, _, _, _, _, _, _ => none
  | k + 1, x3, x4, x485000, x485001, x485002, x485003, x485004, x485005 => if 0 ≤ x485002 then (if x485002 < (x3.length : Int) then ((wicketref11_Joined.f k x485005).bind fun t492 => (wicketref11_said.l0 k ([] : List (S121)) 0 (([(⟨#[105, 100]⟩ : ByteArray), (⟨#[115, 101, 99, 114, 101, 116]⟩ : ByteArray), (⟨#[103, 114, 97, 110, 116, 115]⟩ : ByteArray), (⟨#[112, 105, 110, 103]⟩ : ByteArray), (⟨#[117, 114, 108]⟩ : ByteArray), (⟨#[115, 99, 111, 112, 101]⟩ : ByteArray)] : List ByteArray)) (([x485000, x485001, rdOf ByteArray.empty x3 x485002, x4, x485004, t492] : List ByteArray)))) else (none)) else (none)
def wicketref11_said.l0 : Nat → List (S121) → Int → List ByteArray → List ByteArray → Option (ByteArray)
  | 0, _, _, _, _ => none
  | k + 1, x7, x8, x12, x28 => if x8 < 6 then (if 0 ≤ x8 then (if x8 < (x28.length : Int) then (if (rdOf ByteArray.empty x28 x8).toList = ([] : List UInt8) then (wicketref11_said.l0 k x7 (wrap64 (x8 + 1)) x12 x28) else (if x8 < (x12.length : Int) then (if x7.length < 4398046511104 then (wicketref11_said.l0 k (x7 ++ [(⟨rdOf ByteArray.empty x12 x8, rdOf ByteArray.empty x28 x8⟩ : S121)]) (wrap64 (x8 + 1)) x12 x28) else (none)) else (none))) else (none)) else (none)) else ((wicketref03_Print.f k x7).bind fun t502 => (if t502.size + 1 ≤ 9223372036854775807 then (some (t502 ++ (⟨#[10]⟩ : ByteArray))) else (none)))
end
def wicketref11_said.f (k : Nat) (a0_0 : ByteArray) (a0_1 : ByteArray) (a0_2 : Int) (a0_3 : Bool) (a0_4 : ByteArray) (l0_5 : List ByteArray) : Option (ByteArray) := (some (([(⟨#[]⟩ : ByteArray), (⟨#[100, 101, 118, 105, 99, 101]⟩ : ByteArray), (⟨#[99, 105, 98, 97]⟩ : ByteArray), (⟨#[99, 105, 98, 97, 32, 100, 101, 118, 105, 99, 101]⟩ : ByteArray)] : List ByteArray) : List ByteArray)).bind fun y485 => (if a0_3 = true then (wicketref11_said.j0 k y485 (⟨#[121, 101, 115]⟩ : ByteArray) a0_0 a0_1 a0_2 a0_3 a0_4 l0_5) else (wicketref11_said.j0 k y485 (⟨#[]⟩ : ByteArray) a0_0 a0_1 a0_2 a0_3 a0_4 l0_5))
def wicketref11_said.T6 : Bool × List (List Nat × List Nat) := (true, [([], []), ([0], [0]), ([], []), ([2], [2]), ([], []), ([], []), ([5], [5]), ([4, 6], [4, 6]), ([7], [7]), ([], []), ([], []), ([10], [10]), ([], []), ([12], [12]), ([13], [13]), ([1, 3, 8, 9, 11, 14], [1, 3, 8, 9, 11, 14]), ([15, 14, 0, 1, 2, 3, 4, 5, 6, 7, 8, 9, 10, 11, 12, 13, 14, 15], [15])])
def wicketref11_said.B6 : List Nat := [0, 1, 0, 4, 0, 0, 32, 112, 240, 0, 0, 1024, 0, 4096, 12288, 32767, 65535]
theorem wicketref11_said.tab6 : rtab .any (opsOf Tryz.f49 6) = wicketref11_said.T6 := by kernel_rfl
theorem wicketref11_said.bits6 : waitsOk wicketref11_said.T6.2 wicketref11_said.B6 = true := by kernel_rfl
def wicketref11_said.T12 : Bool × List (List Nat × List Nat) := (true, [([], []), ([], []), ([], []), ([1, 2], [1, 2]), ([3], [3]), ([], []), ([], []), ([5, 6], [5, 6]), ([7], [7]), ([4, 8], [4, 8]), ([9], [9]), ([0, 10], [0, 10]), ([11, 11, 0, 1, 2, 3, 4, 5, 6, 7, 8, 9, 10, 11], [0, 11])])
def wicketref11_said.B12 : List Nat := [0, 0, 0, 6, 14, 0, 0, 96, 224, 510, 1022, 2047, 4095]
theorem wicketref11_said.tab12 : rtab .any (opsOf Tryz.f49 12) = wicketref11_said.T12 := by kernel_rfl
theorem wicketref11_said.bits12 : waitsOk wicketref11_said.T12.2 wicketref11_said.B12 = true := by kernel_rfl
set_option maxHeartbeats 8000000 in
set_option maxRecDepth 100000 in
theorem wicketref11_said.calls (k : Nat) (a0_0 : ByteArray) (a0_1 : ByteArray) (a0_2 : Int) (a0_3 : Bool) (a0_4 : ByteArray) (A0_5 : Option Addr) (c0_5 : Nat) (l0_5 : List ByteArray) (r : ByteArray) (w : World) (hr0_5 : Kd.C Kd.string w A0_5 l0_5.length l0_5) (hc0_5 : l0_5.length ≤ c0_5) (h : wicketref11_said.f k a0_0 a0_1 a0_2 a0_3 a0_4 l0_5 = some r) :
    Calls Tryz.prog 49 #[.agg #[.string a0_0, .string a0_1, .int .i64 a0_2, .bool a0_3, .string a0_4, .slice A0_5 l0_5.length c0_5]] w fun e w' => e = .returned (.string r) ∧ Below w.heap.size w w' := by
  have hu43 := Tryz.underlying43
  have hu121 := Tryz.underlying121
  have HR0_5 := Aside0.mk hr0_5
  have HC0_5 := Aside0.mk hc0_5
  clear hr0_5 hc0_5
  have HB := Aside0.mk (Below.refl w.heap.size w)
  have H : ((some (([(⟨#[]⟩ : ByteArray), (⟨#[100, 101, 118, 105, 99, 101]⟩ : ByteArray), (⟨#[99, 105, 98, 97]⟩ : ByteArray), (⟨#[99, 105, 98, 97, 32, 100, 101, 118, 105, 99, 101]⟩ : ByteArray)] : List ByteArray) : List ByteArray)).bind fun y485 => (if a0_3 = true then (wicketref11_said.j0 k y485 (⟨#[121, 101, 115]⟩ : ByteArray) a0_0 a0_1 a0_2 a0_3 a0_4 l0_5) else (wicketref11_said.j0 k y485 (⟨#[]⟩ : ByteArray) a0_0 a0_1 a0_2 a0_3 a0_4 l0_5))) = some r := h
  clear h
  obtain ⟨y485, hy485⟩ : ∃ y_ : List ByteArray, y_ = (([(⟨#[]⟩ : ByteArray), (⟨#[100, 101, 118, 105, 99, 101]⟩ : ByteArray), (⟨#[99, 105, 98, 97]⟩ : ByteArray), (⟨#[99, 105, 98, 97, 32, 100, 101, 118, 105, 99, 101]⟩ : ByteArray)] : List ByteArray)) := ⟨_, rfl⟩
  replace H : (if a0_3 = true then (wicketref11_said.j0 k y485 (⟨#[121, 101, 115]⟩ : ByteArray) a0_0 a0_1 a0_2 a0_3 a0_4 l0_5) else (wicketref11_said.j0 k y485 (⟨#[]⟩ : ByteArray) a0_0 a0_1 a0_2 a0_3 a0_4 l0_5)) = some r := by first | (rw [hy485]; with_reducible exact H) | (have H2_ := (Option.bind_some _ _).symm.trans H; rw [hy485]; with_reducible exact H2_) | (have H2_ := (Option.bind_some _ _).symm.trans H; with_reducible exact H2_) | with_reducible exact H | (rw [hy485]; exact H) | exact H
  have Ny485 := Aside0.mk hy485
  clear hy485
  have HC2 := Aside0.mk H
  clear H
  go_enter Tryz.func49, Tryz.ntmps49
  go_upto_if 11 with (first | ((with_reducible refine gate_dst (N := 1) rfl ?_); refine box_event ?hg (N := 1) ?hd (cs := #[.string a0_0, .string a0_1, .int .i64 a0_2, .bool a0_3, .string a0_4, .slice A0_5 l0_5.length c0_5]) (t := 43) ?hr ?_; (case hd => rfl); (case hg => rfl); (case hr => first | (go_simp; done) | (go_simp; rfl)); intro gb484 hg w3 hbox hb; have n0_ := Aside0.mk (below_step (by repeat (first | (with_reducible first | exact HB.out | apply below_alloc | apply pw_below_drewN | apply below_drew1) | exact HB.out)) hb); have n1_ := Aside0.mk (hbox); have n2_ := Aside0.mk ((by rw [hg]; exact (below_size (by repeat (first | (with_reducible first | exact HB.out | apply below_alloc | apply pw_below_drewN | apply below_drew1) | exact HB.out))) : w.heap.size ≤ gb484)); have n3_ := Aside0.mk ((by rw [hg]; exact (below_size (by repeat (first | (with_reducible first | exact HB.out | apply below_alloc | apply pw_below_drewN | apply below_drew1) | exact HB.out))) : w.heap.size ≤ gb484)); clear HB; have HB := n0_; have BK484 := n1_; have GW484 := n2_; have GE484 := n3_; clear n0_ n1_ n2_ n3_; clear hb hbox hg) | ((with_reducible refine gate_dst (N := 9) rfl ?_); refine Kd.R_lit Kd.string _ 9 ?hg (N := 9) ?hd (xs := ([(⟨#[]⟩ : ByteArray), (⟨#[100, 101, 118, 105, 99, 101]⟩ : ByteArray), (⟨#[99, 105, 98, 97]⟩ : ByteArray), (⟨#[99, 105, 98, 97, 32, 100, 101, 118, 105, 99, 101]⟩ : ByteArray)] : List ByteArray)) (inner := [.string (⟨#[]⟩ : ByteArray), .string (⟨#[100, 101, 118, 105, 99, 101]⟩ : ByteArray), .string (⟨#[99, 105, 98, 97]⟩ : ByteArray), .string (⟨#[99, 105, 98, 97, 32, 100, 101, 118, 105, 99, 101]⟩ : ByteArray)]) (ok := fun _ => True) (okp := fun _ => True) ?hr ?hp (fun _ hk => hk) trivial (Below.refl _ _) (Nat.le_refl _) (by simp) ?_; (case hd => rfl); (case hg => rfl); (case hr => first | (go_simp; done) | (go_simp; rfl)); (case hp => exact (Reps.one (show Kd.M Kd.string _ _ _ (⟨#[]⟩ : ByteArray) [.string (⟨#[]⟩ : ByteArray)] from rfl) (Reps.one (show Kd.M Kd.string _ _ _ (⟨#[100, 101, 118, 105, 99, 101]⟩ : ByteArray) [.string (⟨#[100, 101, 118, 105, 99, 101]⟩ : ByteArray)] from rfl) (Reps.one (show Kd.M Kd.string _ _ _ (⟨#[99, 105, 98, 97]⟩ : ByteArray) [.string (⟨#[99, 105, 98, 97]⟩ : ByteArray)] from rfl) (Reps.one (show Kd.M Kd.string _ _ _ (⟨#[99, 105, 98, 97, 32, 100, 101, 118, 105, 99, 101]⟩ : ByteArray) [.string (⟨#[99, 105, 98, 97, 32, 100, 101, 118, 105, 99, 101]⟩ : ByteArray)] from rfl) (Reps.none _ _)))))); intro v486 w4 ho5 hb hg_ hnew_; clear hg_ hnew_; (first | rw [← Ny485.out] at ho5 | (simp only [Int.reduceToNat] at ho5; rw [← Ny485.out] at ho5)); have n0_ := Aside0.mk (Kd.R_lower ho5 (below_size (by repeat (first | (with_reducible first | exact HB.out | apply below_alloc | apply pw_below_drewN | apply below_drew1 | refine below_set ?_ GE484.out) | exact HB.out)))); have n1_ := Aside0.mk (blk_below (g := gb484) (o := .cells #[.string a0_0, .string a0_1, .int .i64 a0_2, .bool a0_3, .string a0_4, .slice A0_5 l0_5.length c0_5] 43 (0, 0)) (by (with_reducible repeat (first | refine blk_drewN ?_ _ | refine blk_drew ?_ | refine blk_alloc ?_ _)); exact BK484.out) hb); have n2_ := Aside0.mk (below_step (by repeat (first | (with_reducible first | exact HB.out | apply below_alloc | apply pw_below_drewN | apply below_drew1 | refine below_set ?_ GE484.out) | exact HB.out)) hb); clear BK484; clear HB; have HO487 := n0_; have BK484 := n1_; have HB := n2_; clear n0_ n1_ n2_; clear hb ho5; have hcz6_0 : w4.cell? ⟨gb484, 0, none⟩ = some (.string a0_0) := (blk_cell BK484.out 0).trans rfl; have hcz6_1 : w4.cell? ⟨gb484, 1, none⟩ = some (.string a0_1) := (blk_cell BK484.out 1).trans rfl; have hcz6_2 : w4.cell? ⟨gb484, 2, none⟩ = some (.int .i64 a0_2) := (blk_cell BK484.out 2).trans rfl; have hcz6_3 : w4.cell? ⟨gb484, 3, none⟩ = some (.bool a0_3) := (blk_cell BK484.out 3).trans rfl; have hcz6_4 : w4.cell? ⟨gb484, 4, none⟩ = some (.string a0_4) := (blk_cell BK484.out 4).trans rfl; have hcz6_5 : w4.cell? ⟨gb484, 5, none⟩ = some (.slice A0_5 l0_5.length c0_5) := (blk_cell BK484.out 5).trans rfl; have hfz6_0 := blk_frozen BK484.out 0; have hfz6_1 := blk_frozen BK484.out 1; have hfz6_2 := blk_frozen BK484.out 2; have hfz6_3 := blk_frozen BK484.out 3; have hfz6_4 := blk_frozen BK484.out 4; have hfz6_5 := blk_frozen BK484.out 5))
  (try simp only [Act.put, List.setIfInBounds_toArray, List.set_cons_zero, List.set_cons_succ])
  go_cut [4] (fun v4 wc => ∃ (kq : Nat) (x4_1 : ByteArray), v4 = .string x4_1 ∧ Aside0 (wicketref11_said.j0 kq y485 x4_1 a0_0 a0_1 a0_2 a0_3 a0_4 l0_5 = some r) ∧ Aside0 (kq ≤ k) ∧ Aside0 (Kd.R Kd.string 9 wc w.heap.size (fun _ => True) v486 y485) ∧ Aside0 (wc.heap[gb484]? = some (.cells #[.string a0_0, .string a0_1, .int .i64 a0_2, .bool a0_3, .string a0_4, (.slice A0_5 l0_5.length c0_5)] 43 (0, 0))) ∧ Aside0 (Below w.heap.size w wc))
  case first =>
    have H := HC2.out
    clear HC2
    by_cases c7 : a0_3 = true
    · subst c7
      have H1 : (wicketref11_said.j0 k y485 (⟨#[121, 101, 115]⟩ : ByteArray) a0_0 a0_1 a0_2 true a0_4 l0_5) = some r := by rw [if_pos rfl] at H; exact H
      clear H
      have H := H1
      clear H1
      have H' := Aside0.mk H
      clear H
      go_wp2
      go_meet
      case rel => exact ⟨_, ((⟨#[121, 101, 115]⟩ : ByteArray)), (by first | rfl | (simp; done) | (simp [*]; done) | (simp; (generalize ByteArray.toList _ = z_); cases z_ <;> rfl)), H', ⟨by first | omega | exact Nat.le_refl _⟩, ⟨by (with_reducible repeat (first | apply Kd.R_alloc | apply Kd.R_drewN | apply Kd.R_drew)); exact HO487.out⟩, ⟨by (with_reducible repeat (first | refine blk_drewN ?_ _ | refine blk_drew ?_ | refine blk_alloc ?_ _)); exact BK484.out⟩, ⟨by repeat (first | (with_reducible first | exact HB.out | apply below_alloc | apply pw_below_drewN | apply below_drew1 | refine below_set ?_ GE484.out) | exact HB.out)⟩⟩
    · replace c7 := Bool.eq_false_iff.mpr c7
      subst c7
      have H1 : (wicketref11_said.j0 k y485 (⟨#[]⟩ : ByteArray) a0_0 a0_1 a0_2 false a0_4 l0_5) = some r := by rw [if_neg (show ¬ (false = true) by decide)] at H; exact H
      clear H
      have H := H1
      clear H1
      have H' := Aside0.mk H
      clear H
      go_wp2
      go_meet
      case rel => exact ⟨_, ((⟨#[]⟩ : ByteArray)), (by first | rfl | (simp; done) | (simp [*]; done) | (simp; (generalize ByteArray.toList _ = z_); cases z_ <;> rfl)), H', ⟨by first | omega | exact Nat.le_refl _⟩, ⟨by (with_reducible repeat (first | apply Kd.R_alloc | apply Kd.R_drewN | apply Kd.R_drew)); exact HO487.out⟩, ⟨by (with_reducible repeat (first | refine blk_drewN ?_ _ | refine blk_drew ?_ | refine blk_alloc ?_ _)); exact BK484.out⟩, ⟨by repeat (first | (with_reducible first | exact HB.out | apply below_alloc | apply pw_below_drewN | apply below_drew1 | refine below_set ?_ GE484.out) | exact HB.out)⟩⟩
  case rest =>
    clear HC2
    try clear p2
    try clear c4
    try clear c7
    try clear hcz6_0
    try clear hcz6_1
    try clear hcz6_2
    try clear hcz6_3
    try clear hcz6_4
    try clear hcz6_5
    try clear hfz6_0
    try clear hfz6_1
    try clear hfz6_2
    try clear hfz6_3
    try clear hfz6_4
    try clear hfz6_5
    obtain ⟨kq, x4_1, rfl, HA, HJ1, HO_3, BK484, HB⟩ := hcut
    cases kq with
    | zero => exact absurd HA.out (by simp [wicketref11_said.j0])
    | succ kj1 =>
      have H := HA.out
      clear HA
      simp only [wicketref11_said.j0] at H
      obtain ⟨y488, hy488⟩ : ∃ y_ : List ByteArray, y_ = (([(⟨#[105, 100]⟩ : ByteArray), (⟨#[115, 101, 99, 114, 101, 116]⟩ : ByteArray), (⟨#[103, 114, 97, 110, 116, 115]⟩ : ByteArray), (⟨#[112, 105, 110, 103]⟩ : ByteArray), (⟨#[117, 114, 108]⟩ : ByteArray), (⟨#[115, 99, 111, 112, 101]⟩ : ByteArray)] : List ByteArray)) := ⟨_, rfl⟩
      replace H : (if 0 ≤ a0_2 then (if a0_2 < (y485.length : Int) then ((wicketref11_Joined.f kj1 l0_5).bind fun t492 => (wicketref11_said.l0 kj1 ([] : List (S121)) 0 y488 (([a0_0, a0_1, rdOf ByteArray.empty y485 a0_2, x4_1, a0_4, t492] : List ByteArray)))) else (none)) else (none)) = some r := by first | (rw [hy488]; with_reducible exact H) | (have H2_ := (Option.bind_some _ _).symm.trans H; rw [hy488]; with_reducible exact H2_) | (have H2_ := (Option.bind_some _ _).symm.trans H; with_reducible exact H2_) | with_reducible exact H | (rw [hy488]; exact H) | exact H
      have Ny488 := Aside0.mk hy488
      clear hy488
      by_cases c8 : 0 ≤ a0_2
      · rw [if_pos c8] at H
        have c8b0 : decide (0 ≤ a0_2) = true := decide_eq_true c8
        clear c8
        by_cases c9 : a0_2 < (y485.length : Int)
        · rw [if_pos c9] at H
          have c9b0 : decide (a0_2 < (y485.length : Int)) = true := decide_eq_true c9
          clear c9
          replace H := Option.bind_eq_some_iff.mp H
          obtain ⟨t492, A100, H⟩ := H
          replace H : (wicketref11_said.l0 kj1 ([] : List (S121)) 0 y488 (([a0_0, a0_1, rdOf ByteArray.empty y485 a0_2, x4_1, a0_4, t492] : List ByteArray))) = some r := H
          have A10 := Aside0.mk A100
          clear A100
          obtain ⟨y493, hy493⟩ : ∃ y_ : List ByteArray, y_ = (([a0_0, a0_1, rdOf ByteArray.empty y485 a0_2, x4_1, a0_4, t492] : List ByteArray)) := ⟨_, rfl⟩
          replace H : (wicketref11_said.l0 kj1 ([] : List (S121)) 0 y488 y493) = some r := by first | (rw [hy493]; with_reducible exact H) | (have H2_ := (Option.bind_some _ _).symm.trans H; rw [hy493]; with_reducible exact H2_) | (have H2_ := (Option.bind_some _ _).symm.trans H; with_reducible exact H2_) | with_reducible exact H | (rw [hy493]; exact H) | exact H
          have Ny493 := Aside0.mk hy493
          clear hy493
          have H' := Aside0.mk H
          clear H
          try go_wp2_with (first | ((with_reducible refine gate_dst (N := 12) rfl ?_); refine Kd.R_lit Kd.string _ 9 ?hg (N := 12) ?hd (xs := ([(⟨#[105, 100]⟩ : ByteArray), (⟨#[115, 101, 99, 114, 101, 116]⟩ : ByteArray), (⟨#[103, 114, 97, 110, 116, 115]⟩ : ByteArray), (⟨#[112, 105, 110, 103]⟩ : ByteArray), (⟨#[117, 114, 108]⟩ : ByteArray), (⟨#[115, 99, 111, 112, 101]⟩ : ByteArray)] : List ByteArray)) (inner := [.string (⟨#[105, 100]⟩ : ByteArray), .string (⟨#[115, 101, 99, 114, 101, 116]⟩ : ByteArray), .string (⟨#[103, 114, 97, 110, 116, 115]⟩ : ByteArray), .string (⟨#[112, 105, 110, 103]⟩ : ByteArray), .string (⟨#[117, 114, 108]⟩ : ByteArray), .string (⟨#[115, 99, 111, 112, 101]⟩ : ByteArray)]) (ok := fun _ => True) (okp := fun _ => True) ?hr ?hp (fun _ hk => hk) trivial (Below.refl _ _) (Nat.le_refl _) (by simp) ?_; (case hd => rfl); (case hg => rfl); (case hr => first | (go_simp; done) | (go_simp; rfl)); (case hp => exact (Reps.one (show Kd.M Kd.string _ _ _ (⟨#[105, 100]⟩ : ByteArray) [.string (⟨#[105, 100]⟩ : ByteArray)] from rfl) (Reps.one (show Kd.M Kd.string _ _ _ (⟨#[115, 101, 99, 114, 101, 116]⟩ : ByteArray) [.string (⟨#[115, 101, 99, 114, 101, 116]⟩ : ByteArray)] from rfl) (Reps.one (show Kd.M Kd.string _ _ _ (⟨#[103, 114, 97, 110, 116, 115]⟩ : ByteArray) [.string (⟨#[103, 114, 97, 110, 116, 115]⟩ : ByteArray)] from rfl) (Reps.one (show Kd.M Kd.string _ _ _ (⟨#[112, 105, 110, 103]⟩ : ByteArray) [.string (⟨#[112, 105, 110, 103]⟩ : ByteArray)] from rfl) (Reps.one (show Kd.M Kd.string _ _ _ (⟨#[117, 114, 108]⟩ : ByteArray) [.string (⟨#[117, 114, 108]⟩ : ByteArray)] from rfl) (Reps.one (show Kd.M Kd.string _ _ _ (⟨#[115, 99, 111, 112, 101]⟩ : ByteArray) [.string (⟨#[115, 99, 111, 112, 101]⟩ : ByteArray)] from rfl) (Reps.none _ _)))))))); intro v489 w11 ho12 hb hg_ hnew_; clear hg_ hnew_; (first | rw [← Ny488.out] at ho12 | (simp only [Int.reduceToNat] at ho12; rw [← Ny488.out] at ho12)); have n0_ := Aside0.mk (Kd.R_elder' (by (with_reducible repeat (first | apply Kd.R_alloc | apply Kd.R_drewN | apply Kd.R_drew)); exact HO_3.out) (Kd.R_base ho12) hb); have n1_ := Aside0.mk (Kd.R_lower (Kd.R_new' ho12 (Kd.R_lt (by (with_reducible repeat (first | apply Kd.R_alloc | apply Kd.R_drewN | apply Kd.R_drew)); exact HO_3.out))) (below_size (by repeat (first | (with_reducible first | exact HB.out | apply below_alloc | apply pw_below_drewN | apply below_drew1 | refine below_set ?_ GE484.out) | exact HB.out)))); have n2_ := Aside0.mk (blk_below (g := gb484) (o := .cells #[.string a0_0, .string a0_1, .int .i64 a0_2, .bool a0_3, .string a0_4, .slice A0_5 l0_5.length c0_5] 43 (0, 0)) (by (with_reducible repeat (first | refine blk_drewN ?_ _ | refine blk_drew ?_ | refine blk_alloc ?_ _)); exact BK484.out) hb); have n3_ := Aside0.mk (below_step (by repeat (first | (with_reducible first | exact HB.out | apply below_alloc | apply pw_below_drewN | apply below_drew1 | refine below_set ?_ GE484.out) | exact HB.out)) hb); clear HO_3; clear BK484; clear HB; have HO_3 := n0_; have HO490 := n1_; have BK484 := n2_; have HB := n3_; clear n0_ n1_ n2_ n3_; clear hb ho12))
          have n0_ := Aside0.mk (Kd.R_drew HO_3.out)
          have n1_ := Aside0.mk (Kd.R_drew HO490.out)
          have n2_ := Aside0.mk (blk_drew BK484.out)
          have n3_ := Aside0.mk (below_drew1 HB.out)
          clear HO_3
          clear HO490
          clear BK484
          clear HB
          have HO_3 := n0_
          have HO490 := n1_
          have BK484 := n2_
          have HB := n3_
          clear n0_ n1_ n2_ n3_
          obtain ⟨Ao14, co14, eo14⟩ := Kd.R_slice HO_3.out
          (first | subst eo14 | (injection eo14 with f1_ f2_ f3_; have f4_ := f1_.symm; have f5_ := f3_.symm; clear f1_ f2_ f3_; subst f4_; subst f5_))
          have p491 : 0 ≤ (a0_2 : Int) := of_decide_eq_true (by first | (with_reducible assumption) | assumption)
          have q491 : a0_2 < (y485.length : Int) := of_decide_eq_true (by first | (with_reducible assumption) | assumption)
          obtain ⟨ad491, e491, hx491_0⟩ := Kd.at_string (Kd.R_reads' HO_3.out).2.2 a0_2 p491 q491
          cases e491
          replace p491 := eq_true p491
          replace q491 := eq_true q491
          refine start_ (n := 17) (S := fun w' => w'.cell? ⟨gb484, 0, none⟩ = some (.string a0_0) ∧ w'.cell? ⟨gb484, 1, none⟩ = some (.string a0_1) ∧ w'.cell? ⟨gb484, 2, none⟩ = some (.int .i64 a0_2) ∧ w'.cell? ⟨gb484, 3, none⟩ = some (.bool a0_3) ∧ w'.cell? ⟨gb484, 4, none⟩ = some (.string a0_4) ∧ w'.cell? ⟨gb484, 5, none⟩ = some (.slice A0_5 l0_5.length c0_5) ∧ w'.cell? (ad491.add (a0_2).toNat) = some (.string (rdOf ByteArray.empty y485 a0_2))) (ds := []) #[false, false, false, false, false, false, false, false, false, false, false, false, false, false, false, false, false] (by kernel_rfl) rfl rfl ⟨(blk_cell BK484.out 0).trans rfl, (blk_cell BK484.out 1).trans rfl, (blk_cell BK484.out 2).trans rfl, (blk_cell BK484.out 3).trans rfl, (blk_cell BK484.out 4).trans rfl, (blk_cell BK484.out 5).trans rfl, hx491_0⟩ (fun hHeld => ?_); refine with_tabW wicketref11_said.tab6 wicketref11_said.bits6 (fun HT_ HW_ => ?_)
          generalize w11.drew = w13 at HO_3 HO490 BK484 HB hx491_0 hHeld ⊢
          refine pure_ (i := 0) (N := some 13) (v := ?_) (a' := ?_) #[true, false, false, false, false, false, false, false, false, false, false, false, false, false, false, false, false] rfl rfl (any_of HT_.out (by kernel_rfl)) (fun _ _ _ h => h) (Or.inl ⟨by rfl, ?_⟩) ?_ ?_
          rotate_left
          · intro w'
            go_simp
            with_reducible rfl
          rotate_left
          · simp only [Act.put, List.setIfInBounds_toArray, List.set_cons_zero, List.set_cons_succ, i64_w, i32_w]
            rfl
          refine pure_ (i := 2) (N := some 15) (v := ?_) (a' := ?_) #[true, false, true, false, false, false, false, false, false, false, false, false, false, false, false, false, false] rfl rfl (any_of HT_.out (by kernel_rfl)) (fun _ _ _ h => h) (Or.inl ⟨by rfl, ?_⟩) ?_ ?_
          rotate_left
          · intro w'
            go_simp
            with_reducible rfl
          rotate_left
          · simp only [Act.put, List.setIfInBounds_toArray, List.set_cons_zero, List.set_cons_succ, i64_w, i32_w]
            rfl
          refine pure_ (i := 4) (N := some 17) (v := ?_) (a' := ?_) #[true, false, true, false, true, false, false, false, false, false, false, false, false, false, false, false, false] rfl rfl (any_of HT_.out (by kernel_rfl)) (fun _ _ _ h => h) (Or.inl ⟨by rfl, ?_⟩) ?_ ?_
          rotate_left
          · intro w'
            go_simp
            with_reducible rfl
          rotate_left
          · simp only [Act.put, List.setIfInBounds_toArray, List.set_cons_zero, List.set_cons_succ, i64_w, i32_w]
            rfl
          refine pure_ (i := 5) (N := some 18) (v := ?_) (a' := ?_) #[true, false, true, false, true, true, false, false, false, false, false, false, false, false, false, false, false] rfl rfl (any_of HT_.out (by kernel_rfl)) (fun _ _ _ h => h) (Or.inl ⟨by rfl, ?_⟩) ?_ ?_
          rotate_left
          · intro w'
            go_simp
            with_reducible rfl
          rotate_left
          · simp only [Act.put, List.setIfInBounds_toArray, List.set_cons_zero, List.set_cons_succ, i64_w, i32_w]
            rfl
          refine pure_ (i := 9) (N := some 22) (v := ?_) (a' := ?_) #[true, false, true, false, true, true, false, false, false, true, false, false, false, false, false, false, false] rfl rfl (any_of HT_.out (by kernel_rfl)) (fun _ _ _ h => h) (Or.inl ⟨by rfl, ?_⟩) ?_ ?_
          rotate_left
          · intro w'
            go_simp
            with_reducible rfl
          rotate_left
          · simp only [Act.put, List.setIfInBounds_toArray, List.set_cons_zero, List.set_cons_succ, i64_w, i32_w]
            rfl
          refine pure_ (i := 10) (N := some 23) (v := ?_) (a' := ?_) #[true, false, true, false, true, true, false, false, false, true, true, false, false, false, false, false, false] rfl rfl (any_of HT_.out (by kernel_rfl)) (fun _ _ _ h => h) (Or.inl ⟨by rfl, ?_⟩) ?_ ?_
          rotate_left
          · intro w'
            go_simp
            with_reducible rfl
          rotate_left
          · simp only [Act.put, List.setIfInBounds_toArray, List.set_cons_zero, List.set_cons_succ, i64_w, i32_w]
            rfl
          refine pure_ (i := 12) (N := some 25) (v := ?_) (a' := ?_) #[true, false, true, false, true, true, false, false, false, true, true, false, true, false, false, false, false] rfl rfl (any_of HT_.out (by kernel_rfl)) (fun _ _ _ h => h) (Or.inl ⟨by rfl, ?_⟩) ?_ ?_
          rotate_left
          · intro w'
            go_simp
            with_reducible rfl
          rotate_left
          · simp only [Act.put, List.setIfInBounds_toArray, List.set_cons_zero, List.set_cons_succ, i64_w, i32_w]
            rfl
          refine take_ (i := 1) (N := some 14) (v := ?_) (a' := ?_) #[true, true, true, false, true, true, false, false, false, true, true, false, true, false, false, false, false] rfl rfl (take_ofW HT_.out HW_.out (by kernel_rfl)) (fun _ _ _ h => h) (Or.inl ⟨by rfl, ?_⟩) hHeld ?_ ?_
          rotate_left
          · rintro w' ⟨s0, s1, s2, s3, s4, s5, s6⟩
            go_simp
            with_reducible rfl
          rotate_left
          · simp only [Act.put, List.setIfInBounds_toArray, List.set_cons_zero, List.set_cons_succ, i64_w, i32_w]
            rfl
          refine take_ (i := 3) (N := some 16) (v := ?_) (a' := ?_) #[true, true, true, true, true, true, false, false, false, true, true, false, true, false, false, false, false] rfl rfl (take_ofW HT_.out HW_.out (by kernel_rfl)) (fun _ _ _ h => h) (Or.inl ⟨by rfl, ?_⟩) hHeld ?_ ?_
          rotate_left
          · rintro w' ⟨s0, s1, s2, s3, s4, s5, s6⟩
            go_simp
            with_reducible rfl
          rotate_left
          · simp only [Act.put, List.setIfInBounds_toArray, List.set_cons_zero, List.set_cons_succ, i64_w, i32_w]
            rfl
          refine take_ (i := 6) (N := some 19) (v := ?_) (a' := ?_) #[true, true, true, true, true, true, true, false, false, true, true, false, true, false, false, false, false] rfl rfl (take_ofW HT_.out HW_.out (by kernel_rfl)) (fun _ _ _ h => h) (Or.inl ⟨by rfl, ?_⟩) hHeld ?_ ?_
          rotate_left
          · rintro w' ⟨s0, s1, s2, s3, s4, s5, s6⟩
            go_simp
            with_reducible rfl
          rotate_left
          · simp only [Act.put, List.setIfInBounds_toArray, List.set_cons_zero, List.set_cons_succ, i64_w, i32_w]
            rfl
          refine pure_ (i := 7) (N := some 20) (v := ?_) (a' := ?_) #[true, true, true, true, true, true, true, true, false, true, true, false, true, false, false, false, false] rfl rfl (any_of HT_.out (by kernel_rfl)) (fun _ _ _ h => h) (Or.inl ⟨by rfl, ?_⟩) ?_ ?_
          rotate_left
          · intro w'
            go_simp
            with_reducible rfl
          rotate_left
          · simp only [Act.put, List.setIfInBounds_toArray, List.set_cons_zero, List.set_cons_succ, i64_w, i32_w]
            rfl
          refine take_ (i := 8) (N := some 21) (v := ?_) (a' := ?_) #[true, true, true, true, true, true, true, true, true, true, true, false, true, false, false, false, false] rfl rfl (take_ofW HT_.out HW_.out (by kernel_rfl)) (fun _ _ _ h => h) (Or.inl ⟨by rfl, ?_⟩) hHeld ?_ ?_
          rotate_left
          · rintro w' ⟨s0, s1, s2, s3, s4, s5, s6⟩
            go_simp
            with_reducible rfl
          rotate_left
          · simp only [Act.put, List.setIfInBounds_toArray, List.set_cons_zero, List.set_cons_succ, i64_w, i32_w]
            rfl
          refine take_ (i := 11) (N := some 24) (v := ?_) (a' := ?_) #[true, true, true, true, true, true, true, true, true, true, true, true, true, false, false, false, false] rfl rfl (take_ofW HT_.out HW_.out (by kernel_rfl)) (fun _ _ _ h => h) (Or.inl ⟨by rfl, ?_⟩) hHeld ?_ ?_
          rotate_left
          · rintro w' ⟨s0, s1, s2, s3, s4, s5, s6⟩
            go_simp
            with_reducible rfl
          rotate_left
          · simp only [Act.put, List.setIfInBounds_toArray, List.set_cons_zero, List.set_cons_succ, i64_w, i32_w]
            rfl
          refine take_ (i := 13) (N := some 26) (v := ?_) (a' := ?_) #[true, true, true, true, true, true, true, true, true, true, true, true, true, true, false, false, false] rfl rfl (take_ofW HT_.out HW_.out (by kernel_rfl)) (fun _ _ _ h => h) (Or.inl ⟨by rfl, ?_⟩) hHeld ?_ ?_
          rotate_left
          · rintro w' ⟨s0, s1, s2, s3, s4, s5, s6⟩
            go_simp
            with_reducible rfl
          rotate_left
          · simp only [Act.put, List.setIfInBounds_toArray, List.set_cons_zero, List.set_cons_succ, i64_w, i32_w]
            rfl
          refine one_ (i := 14) (N := some 27) #[true, true, true, true, true, true, true, true, true, true, true, true, true, true, true, false, false] rfl rfl (one_of HT_.out (by kernel_rfl)) (by decide) (fun K hK => ?_)
          refine goes_ Tryz.func42 (by kernel_rfl) rfl #[.slice A0_5 l0_5.length c0_5] (by rfl) rfl rfl (by (try simp only [List.map_toArray, List.map_cons, List.map_nil]); first | done | rfl | (simp only [List.length_drop, List.length_take]; rfl)) ?_
          with_reducible refine (wicketref11_Joined.calls kj1 _ _ l0_5 t492 _ ?side1 ?side2 A10.out).mono ?_
          (case side1 => repeat (first | exact (Kd.C_below HR0_5.out HB.out) | (with_reducible refine Kd.C_alloc ?_ _) | (with_reducible refine Kd.C_drewN ?_ _) | (with_reducible refine Kd.C_drew ?_)))
          (case side2 => exact HC0_5.out)
          rintro e w' ⟨rfl, ⟨nd, rfl⟩⟩
          refine ⟨_, rfl, ?_⟩
          refine hK.out _ _ ⟨(blk_cell BK484.out 0).trans rfl, (blk_cell BK484.out 1).trans rfl, (blk_cell BK484.out 2).trans rfl, (blk_cell BK484.out 3).trans rfl, (blk_cell BK484.out 4).trans rfl, (blk_cell BK484.out 5).trans rfl, hHeld.2.2.2.2.2.2⟩ (fun hHeld => ?_)
          clear hK K
          refine norm_ (a' := ?_) ?_ ?_
          rotate_left
          · show Act.put _ (some 27) _ = _
            simp only [Act.put, List.setIfInBounds_toArray, List.set_cons_zero, List.set_cons_succ, i64_w, i32_w]
            rfl
          refine one_ (i := 15) (N := some 28) #[true, true, true, true, true, true, true, true, true, true, true, true, true, true, true, true, false] rfl rfl (one_of HT_.out (by kernel_rfl)) (by decide) (fun K hK => ?_)
          refine Kd.R_lit_step Kd.string _ 9 ?hg (N := 28) ?hd (xs := ([a0_0, a0_1, rdOf ByteArray.empty y485 a0_2, x4_1, a0_4, t492] : List ByteArray)) (inner := [.string a0_0, .string a0_1, .string (rdOf ByteArray.empty y485 a0_2), .string x4_1, .string a0_4, .string t492]) (ok := fun _ => True) (okp := fun _ => True) ?hr ?hp (fun _ hk => hk) trivial (Below.refl _ _) (Nat.le_refl _) (by simp) ?_; (case hd => rfl); (case hg => rfl); (case hr => first | (go_simp; done) | (go_simp; rfl)); (case hp => exact (Reps.one (show Kd.M Kd.string _ _ _ a0_0 [.string a0_0] from rfl) (Reps.one (show Kd.M Kd.string _ _ _ a0_1 [.string a0_1] from rfl) (Reps.one (show Kd.M Kd.string _ _ _ (rdOf ByteArray.empty y485 a0_2) [.string (rdOf ByteArray.empty y485 a0_2)] from rfl) (Reps.one (show Kd.M Kd.string _ _ _ x4_1 [.string x4_1] from rfl) (Reps.one (show Kd.M Kd.string _ _ _ a0_4 [.string a0_4] from rfl) (Reps.one (show Kd.M Kd.string _ _ _ t492 [.string t492] from rfl) (Reps.none _ _))))))))
          intro v494 w15 ho16 hb hg_ hnew_
          have HS6_ := (hb.cell (World.block_lt_of_cell? _ _ (hHeld.2.2.2.2.2.2))).trans (hHeld.2.2.2.2.2.2)
          clear hg_ hnew_
          (first | rw [← Ny493.out] at ho16 | (simp only [Int.reduceToNat] at ho16; rw [← Ny493.out] at ho16))
          have n0_ := Aside0.mk (Kd.R_elder' (by (with_reducible repeat (first | apply Kd.R_alloc | apply Kd.R_drewN | apply Kd.R_drew)); exact HO_3.out) (Kd.R_base ho16) hb)
          have n1_ := Aside0.mk (Kd.R_elder' (by (with_reducible repeat (first | apply Kd.R_alloc | apply Kd.R_drewN | apply Kd.R_drew)); exact HO490.out) (Kd.R_base ho16) hb)
          have n2_ := Aside0.mk (Kd.R_lower (Kd.R_new' (Kd.R_new' ho16 (Kd.R_lt (by (with_reducible repeat (first | apply Kd.R_alloc | apply Kd.R_drewN | apply Kd.R_drew)); exact HO_3.out))) (Kd.R_lt (by (with_reducible repeat (first | apply Kd.R_alloc | apply Kd.R_drewN | apply Kd.R_drew)); exact HO490.out))) (below_size (by repeat (first | (with_reducible first | exact HB.out | apply below_alloc | apply pw_below_drewN | apply below_drew1 | refine below_set ?_ GE484.out) | exact HB.out))))
          have n3_ := Aside0.mk (blk_below (g := gb484) (o := .cells #[.string a0_0, .string a0_1, .int .i64 a0_2, .bool a0_3, .string a0_4, .slice A0_5 l0_5.length c0_5] 43 (0, 0)) (by (with_reducible repeat (first | refine blk_drewN ?_ _ | refine blk_drew ?_ | refine blk_alloc ?_ _)); exact BK484.out) hb)
          have n4_ := Aside0.mk (below_step (by repeat (first | (with_reducible first | exact HB.out | apply below_alloc | apply pw_below_drewN | apply below_drew1 | refine below_set ?_ GE484.out) | exact HB.out)) hb)
          clear HO_3
          clear HO490
          clear BK484
          clear HB
          have HO_3 := n0_
          have HO490 := n1_
          have HO495 := n2_
          have BK484 := n3_
          have HB := n4_
          clear n0_ n1_ n2_ n3_ n4_
          clear hb ho16
          refine hK.out _ _ ⟨(blk_cell BK484.out 0).trans rfl, (blk_cell BK484.out 1).trans rfl, (blk_cell BK484.out 2).trans rfl, (blk_cell BK484.out 3).trans rfl, (blk_cell BK484.out 4).trans rfl, (blk_cell BK484.out 5).trans rfl, HS6_⟩ (fun hHeld => ?_)
          clear hK K
          refine norm_ (a' := ?_) ?_ ?_
          rotate_left
          · show Act.put _ (some 28) _ = _
            simp only [Act.put, List.setIfInBounds_toArray, List.set_cons_zero, List.set_cons_succ, i64_w, i32_w]
            rfl
          refine pure_ (i := 16) (N := some 6) (v := ?_) (a' := ?_) #[true, true, true, true, true, true, true, true, true, true, true, true, true, true, true, true, true] rfl rfl (any_of HT_.out (by kernel_rfl)) (fun _ _ _ h => h) (Or.inl ⟨by rfl, ?_⟩) ?_ ?_
          rotate_left
          · intro w'
            go_simp
            with_reducible rfl
          rotate_left
          · simp only [Act.put, List.setIfInBounds_toArray, List.set_cons_zero, List.set_cons_succ, i64_w, i32_w]
            rfl
          refine done_ (done_of HT_.out (by kernel_rfl)) ?_
          try go_wp2
          go_loopg [7, 8] kj1 (fun kq v7 v8 w' => ∃ (x7_2 : List (S121)) (x8_2 : Int), v8 = .int .i64 x8_2 ∧ Aside0 (wicketref11_said.l0 kq x7_2 x8_2 y488 y493 = some r) ∧ Aside0 (kq ≤ kj1) ∧ Aside0 (Kd.R k121 121 w' w.heap.size (fun _ => True) v7 x7_2) ∧ Aside0 (Kd.R Kd.string 9 w' w.heap.size (fun k_ => some k_ ≠ (v494 : Value).ownBlock) v489 y488) ∧ Aside0 (Kd.R Kd.string 9 w' w.heap.size (fun k_ => some k_ ≠ (v489 : Value).ownBlock) v494 y493) ∧ Aside0 (w'.heap[gb484]? = some (.cells #[.string a0_0, .string a0_1, .int .i64 a0_2, .bool a0_3, .string a0_4, (.slice A0_5 l0_5.length c0_5)] 43 (0, 0))) ∧ Aside0 (Below w.heap.size w w'))
          case atStart => exact ⟨(([] : List (S121))), (0), (by first | rfl | (simp; done) | (simp [*]; done) | (simp; (generalize ByteArray.toList _ = z_); cases z_ <;> rfl)), H', ⟨Nat.le_refl _⟩, ⟨by first | exact Kd.R_nil _ _ _ _ _ | exact Kd.N_nil _ _ _ _ _ | exact Kd.V_nil _ _ _ _ _ | exact Kd.Q_nil _ _ _ _ _ | exact Kd.S_nil _ _ _ _ _⟩, ⟨by (with_reducible repeat (first | apply Kd.R_alloc | apply Kd.R_drewN | apply Kd.R_drew)); exact Kd.R_mono HO490.out (fun _ hk => hk.2)⟩, ⟨by (with_reducible repeat (first | apply Kd.R_alloc | apply Kd.R_drewN | apply Kd.R_drew)); exact Kd.R_mono HO495.out (fun _ hk => hk.2)⟩, ⟨by (with_reducible repeat (first | refine blk_drewN ?_ _ | refine blk_drew ?_ | refine blk_alloc ?_ _)); exact BK484.out⟩, ⟨by repeat (first | (with_reducible first | exact HB.out | apply below_alloc | apply pw_below_drewN | apply below_drew1 | refine below_set ?_ GE484.out) | exact HB.out)⟩⟩
          case round =>
            clear H'
            try clear p2
            try clear c4
            try clear p4
            try clear q4
            try clear hx4
            try clear c7
            try clear c8
            try clear c8b0
            try clear c9
            try clear c9b0
            try clear hcz6_0
            try clear hcz6_1
            try clear hcz6_2
            try clear hcz6_3
            try clear hcz6_4
            try clear hcz6_5
            try clear hfz6_0
            try clear hfz6_1
            try clear hfz6_2
            try clear hfz6_3
            try clear hfz6_4
            try clear hfz6_5
            try clear hx491_0
            try clear p2
            try clear p491
            try clear q491
            obtain ⟨x7_2, x8_2, rfl, HA, HK2, HO_7, HO_12, HO_28, BK484, HB⟩ := hrel
            cases gk with
            | zero => exact absurd HA.out (by simp [wicketref11_said.l0])
            | succ k2 =>
              have H := HA.out
              clear HA
              simp only [wicketref11_said.l0] at H
              by_cases c17 : x8_2 < 6
              · rw [if_pos c17] at H
                have c17b0 : decide (x8_2 < 6) = true := decide_eq_true c17
                clear c17
                by_cases c18 : 0 ≤ x8_2
                · rw [if_pos c18] at H
                  have c18b0 : decide (0 ≤ x8_2) = true := decide_eq_true c18
                  clear c18
                  by_cases c19 : x8_2 < (y493.length : Int)
                  · rw [if_pos c19] at H
                    have c19b0 : decide (x8_2 < (y493.length : Int)) = true := decide_eq_true c19
                    clear c19
                    by_cases c20 : (rdOf ByteArray.empty y493 x8_2).toList = ([] : List UInt8)
                    · rw [if_pos c20] at H
                      have c20b0 : ((rdOf ByteArray.empty y493 x8_2).toList == ([] : List UInt8)) = true := beq_iff_eq.mpr c20
                      have c20b1 : ((rdOf ByteArray.empty y493 x8_2).toList != ([] : List UInt8)) = false := bne_eq_false_iff_eq.mpr c20
                      clear c20
                      have H' := Aside0.mk H
                      clear H
                      obtain ⟨Ao21, co21, eo21⟩ := Kd.R_slice HO_28.out
                      subst eo21
                      have p496 : 0 ≤ (x8_2 : Int) := of_decide_eq_true (by first | (with_reducible assumption) | assumption)
                      have q496 : x8_2 < (y493.length : Int) := of_decide_eq_true (by first | (with_reducible assumption) | assumption)
                      obtain ⟨ad496, e496, hx496_0⟩ := Kd.at_string (Kd.R_reads' HO_28.out).2.2 x8_2 p496 q496
                      cases e496
                      replace p496 := eq_true p496
                      replace q496 := eq_true q496
                      go_wp2
                      go_roundg k2
                      case measure => have := HJ1.out; have := HK2.out; omega
                      case rel => exact ⟨(x7_2), (wrap64 (x8_2 + 1)), (by first | rfl | (simp; done) | (simp [*]; done) | (simp; (generalize ByteArray.toList _ = z_); cases z_ <;> rfl)), H', ⟨by have := HJ1.out; have := HK2.out; omega⟩, ⟨by (with_reducible repeat (first | apply Kd.R_alloc | apply Kd.R_drewN | apply Kd.R_drew)); exact HO_7.out⟩, ⟨by (with_reducible repeat (first | apply Kd.R_alloc | apply Kd.R_drewN | apply Kd.R_drew)); exact HO_12.out⟩, ⟨by (with_reducible repeat (first | apply Kd.R_alloc | apply Kd.R_drewN | apply Kd.R_drew)); exact HO_28.out⟩, ⟨by (with_reducible repeat (first | refine blk_drewN ?_ _ | refine blk_drew ?_ | refine blk_alloc ?_ _)); exact BK484.out⟩, ⟨by repeat (first | (with_reducible first | exact HB.out | apply below_alloc | apply pw_below_drewN | apply below_drew1 | refine below_set ?_ GE484.out) | exact HB.out)⟩⟩
                    · rw [if_neg c20] at H
                      have c20b0 : ((rdOf ByteArray.empty y493 x8_2).toList == ([] : List UInt8)) = false := beq_eq_false_iff_ne.mpr c20
                      have c20b1 : ((rdOf ByteArray.empty y493 x8_2).toList != ([] : List UInt8)) = true := bne_iff_ne.mpr c20
                      by_cases c22 : x8_2 < (y488.length : Int)
                      · rw [if_pos c22] at H
                        have c22b0 : decide (x8_2 < (y488.length : Int)) = true := decide_eq_true c22
                        clear c22
                        by_cases c23 : x7_2.length < 4398046511104
                        · rw [if_pos c23] at H
                          have LMc23 := Aside0.mk c23
                          clear c23
                          obtain ⟨y499, hy499⟩ : ∃ y_ : List (S121), y_ = (x7_2 ++ [(⟨rdOf ByteArray.empty y488 x8_2, rdOf ByteArray.empty y493 x8_2⟩ : S121)]) := ⟨_, rfl⟩
                          replace H : (wicketref11_said.l0 k2 y499 (wrap64 (x8_2 + 1)) y488 y493) = some r := by first | (rw [hy499]; with_reducible exact H) | (have H2_ := (Option.bind_some _ _).symm.trans H; rw [hy499]; with_reducible exact H2_) | (have H2_ := (Option.bind_some _ _).symm.trans H; with_reducible exact H2_) | with_reducible exact H | (rw [hy499]; exact H) | exact H
                          have Ny499 := Aside0.mk hy499
                          clear hy499
                          have H' := Aside0.mk H
                          clear H
                          obtain ⟨Ao24, co24, eo24⟩ := Kd.R_slice HO_28.out
                          subst eo24
                          have p496 : 0 ≤ (x8_2 : Int) := of_decide_eq_true (by first | (with_reducible assumption) | assumption)
                          have q496 : x8_2 < (y493.length : Int) := of_decide_eq_true (by first | (with_reducible assumption) | assumption)
                          obtain ⟨ad496, e496, hx496_0⟩ := Kd.at_string (Kd.R_reads' HO_28.out).2.2 x8_2 p496 q496
                          cases e496
                          replace p496 := eq_true p496
                          replace q496 := eq_true q496
                          try go_wp2
                          have n0_ := Aside0.mk (Kd.R_drew HO_7.out)
                          have n1_ := Aside0.mk (Kd.R_drew HO_12.out)
                          have n2_ := Aside0.mk (Kd.R_drew HO_28.out)
                          have n3_ := Aside0.mk (blk_drew BK484.out)
                          have n4_ := Aside0.mk (below_drew1 HB.out)
                          clear HO_7
                          clear HO_12
                          clear HO_28
                          clear BK484
                          clear HB
                          have HO_7 := n0_
                          have HO_12 := n1_
                          have HO_28 := n2_
                          have BK484 := n3_
                          have HB := n4_
                          clear n0_ n1_ n2_ n3_ n4_
                          obtain ⟨Ao26, co26, eo26⟩ := Kd.R_slice HO_12.out
                          (first | subst eo26 | (injection eo26 with f1_ f2_ f3_; have f4_ := f1_.symm; have f5_ := f3_.symm; clear f1_ f2_ f3_; subst f4_; subst f5_))
                          have p497 : 0 ≤ (x8_2 : Int) := of_decide_eq_true (by first | (with_reducible assumption) | assumption)
                          have q497 : x8_2 < (y488.length : Int) := of_decide_eq_true (by first | (with_reducible assumption) | assumption)
                          obtain ⟨ad497, e497, hx497_0⟩ := Kd.at_string (Kd.R_reads' HO_12.out).2.2 x8_2 p497 q497
                          cases e497
                          replace p497 := eq_true p497
                          replace q497 := eq_true q497
                          have p498 : 0 ≤ (x8_2 : Int) := of_decide_eq_true (by first | (with_reducible assumption) | assumption)
                          have q498 : x8_2 < (y493.length : Int) := of_decide_eq_true (by first | (with_reducible assumption) | assumption)
                          obtain ⟨ad498, e498, hx498_0⟩ := Kd.at_string (Kd.R_reads' HO_28.out).2.2 x8_2 p498 q498
                          obtain rfl : ad496 = ad498 := (by injection e498)
                          replace p498 := eq_true p498
                          replace q498 := eq_true q498
                          refine start_ (n := 13) (S := fun w' => w'.cell? (ad497.add (x8_2).toNat) = some (.string (rdOf ByteArray.empty y488 x8_2)) ∧ w'.cell? (ad496.add (x8_2).toNat) = some (.string (rdOf ByteArray.empty y493 x8_2))) (ds := [10, 11]) #[false, false, false, false, false, false, false, false, false, false, false, false, false] (by kernel_rfl) rfl rfl ⟨hx497_0, hx498_0⟩ (fun hHeld => ?_); refine with_tabW wicketref11_said.tab12 wicketref11_said.bits12 (fun HT_ HW_ => ?_)
                          generalize wr.drew = w25 at HO_7 HO_12 HO_28 BK484 HB hx497_0 hx498_0 hHeld ⊢
                          refine pure_ (i := 0) (N := some 38) (v := ?_) (a' := ?_) #[true, false, false, false, false, false, false, false, false, false, false, false, false] rfl rfl (any_of HT_.out (by kernel_rfl)) (fun _ _ _ h => h) (Or.inl ⟨by rfl, ?_⟩) ?_ ?_
                          rotate_left
                          · intro w'
                            go_simp
                            with_reducible rfl
                          rotate_left
                          · simp only [Act.put, List.setIfInBounds_toArray, List.set_cons_zero, List.set_cons_succ, i64_w, i32_w]
                            rfl
                          refine pure_ (i := 1) (N := some 39) (v := ?_) (a' := ?_) #[true, true, false, false, false, false, false, false, false, false, false, false, false] rfl rfl (any_of HT_.out (by kernel_rfl)) (fun _ _ _ h => h) (Or.inl ⟨by rfl, ?_⟩) ?_ ?_
                          rotate_left
                          · intro w'
                            go_simp
                            with_reducible rfl
                          rotate_left
                          · simp only [Act.put, List.setIfInBounds_toArray, List.set_cons_zero, List.set_cons_succ, i64_w, i32_w]
                            rfl
                          refine pure_ (i := 2) (N := some 40) (v := ?_) (a' := ?_) #[true, true, true, false, false, false, false, false, false, false, false, false, false] rfl rfl (any_of HT_.out (by kernel_rfl)) (fun _ _ _ h => h) (Or.inl ⟨by rfl, ?_⟩) ?_ ?_
                          rotate_left
                          · intro w'
                            go_simp
                            with_reducible rfl
                          rotate_left
                          · simp only [Act.put, List.setIfInBounds_toArray, List.set_cons_zero, List.set_cons_succ, i64_w, i32_w]
                            rfl
                          refine pure_ (i := 3) (N := some 41) (v := ?_) (a' := ?_) #[true, true, true, true, false, false, false, false, false, false, false, false, false] rfl rfl (any_of HT_.out (by kernel_rfl)) (fun _ _ _ h => h) (Or.inl ⟨by rfl, ?_⟩) ?_ ?_
                          rotate_left
                          · intro w'
                            go_simp
                            with_reducible rfl
                          rotate_left
                          · simp only [Act.put, List.setIfInBounds_toArray, List.set_cons_zero, List.set_cons_succ, i64_w, i32_w]
                            rfl
                          refine pure_ (i := 5) (N := some 43) (v := ?_) (a' := ?_) #[true, true, true, true, false, true, false, false, false, false, false, false, false] rfl rfl (any_of HT_.out (by kernel_rfl)) (fun _ _ _ h => h) (Or.inl ⟨by rfl, ?_⟩) ?_ ?_
                          rotate_left
                          · intro w'
                            go_simp
                            with_reducible rfl
                          rotate_left
                          · simp only [Act.put, List.setIfInBounds_toArray, List.set_cons_zero, List.set_cons_succ, i64_w, i32_w]
                            rfl
                          refine pure_ (i := 6) (N := some 44) (v := ?_) (a' := ?_) #[true, true, true, true, false, true, true, false, false, false, false, false, false] rfl rfl (any_of HT_.out (by kernel_rfl)) (fun _ _ _ h => h) (Or.inl ⟨by rfl, ?_⟩) ?_ ?_
                          rotate_left
                          · intro w'
                            go_simp
                            with_reducible rfl
                          rotate_left
                          · simp only [Act.put, List.setIfInBounds_toArray, List.set_cons_zero, List.set_cons_succ, i64_w, i32_w]
                            rfl
                          refine pure_ (i := 7) (N := some 45) (v := ?_) (a' := ?_) #[true, true, true, true, false, true, true, true, false, false, false, false, false] rfl rfl (any_of HT_.out (by kernel_rfl)) (fun _ _ _ h => h) (Or.inl ⟨by rfl, ?_⟩) ?_ ?_
                          rotate_left
                          · intro w'
                            go_simp
                            with_reducible rfl
                          rotate_left
                          · simp only [Act.put, List.setIfInBounds_toArray, List.set_cons_zero, List.set_cons_succ, i64_w, i32_w]
                            rfl
                          refine take_ (i := 4) (N := some 42) (v := ?_) (a' := ?_) #[true, true, true, true, true, true, true, true, false, false, false, false, false] rfl rfl (take_ofW HT_.out HW_.out (by kernel_rfl)) (fun _ _ _ h => h) (Or.inl ⟨by rfl, ?_⟩) hHeld ?_ ?_
                          rotate_left
                          · rintro w' ⟨s0, s1⟩
                            go_simp
                            with_reducible rfl
                          rotate_left
                          · simp only [Act.put, List.setIfInBounds_toArray, List.set_cons_zero, List.set_cons_succ, i64_w, i32_w]
                            rfl
                          refine take_ (i := 8) (N := some 46) (v := ?_) (a' := ?_) #[true, true, true, true, true, true, true, true, true, false, false, false, false] rfl rfl (take_ofW HT_.out HW_.out (by kernel_rfl)) (fun _ _ _ h => h) (Or.inl ⟨by rfl, ?_⟩) hHeld ?_ ?_
                          rotate_left
                          · rintro w' ⟨s0, s1⟩
                            go_simp
                            with_reducible rfl
                          rotate_left
                          · simp only [Act.put, List.setIfInBounds_toArray, List.set_cons_zero, List.set_cons_succ, i64_w, i32_w]
                            rfl
                          refine pure_ (i := 9) (N := some 47) (v := ?_) (a' := ?_) #[true, true, true, true, true, true, true, true, true, true, false, false, false] rfl rfl (any_of HT_.out (by kernel_rfl)) (fun _ _ _ h => h) (Or.inl ⟨by rfl, ?_⟩) ?_ ?_
                          rotate_left
                          · intro w'
                            go_simp
                            with_reducible rfl
                          rotate_left
                          · simp only [Act.put, List.setIfInBounds_toArray, List.set_cons_zero, List.set_cons_succ, i64_w, i32_w]
                            rfl
                          refine last_ (i := 10) (N := some 48) #[true, true, true, true, true, true, true, true, true, true, true, false, false] rfl rfl (one_of HT_.out (by kernel_rfl)) (by decide) (fun K hK => ?_)
                          refine value_ (w1 := ?_) (v := ?_) (by rfl) rfl ?_ ?_
                          rotate_left 2
                          · go_simp
                            constructor
                            · rfl
                            · rfl
                          refine hK.out _ _ ?_
                          clear hK K
                          refine norm_ (a' := ?_) ?_ ?_
                          rotate_left
                          · show Act.put _ (some 48) _ = _
                            simp only [Act.put, List.setIfInBounds_toArray, List.set_cons_zero, List.set_cons_succ, i64_w, i32_w]
                            rfl
                          refine last_ (i := 11) (N := some 49) #[true, true, true, true, true, true, true, true, true, true, true, true, false] rfl rfl (one_of HT_.out (by kernel_rfl)) (by decide) (fun K hK => ?_)
                          refine Kd.R_append_step k121 (w0 := w) w.heap.size (by rfl) (.tmp 38) (.tmp 48) 65 121 (.agg #[(.string ⟨#[]⟩), (.string ⟨#[]⟩)]) 32 rfl Tryz.underlying65 info121 rfl (by decide) (by omega) u7 x7_2 (⟨rdOf ByteArray.empty y488 x8_2, rdOf ByteArray.empty y493 x8_2⟩ : S121) [.string (rdOf ByteArray.empty y488 x8_2), .string (rdOf ByteArray.empty y493 x8_2)] (fun _ => True) (fun _ => False) rfl rfl ?aP (fun _ hk => hk.elim) ?aF ?aO ?aB ?aS ?aL ?_
                          (case aP => exact k121_mkM _ _ _ (⟨rdOf ByteArray.empty y488 x8_2, rdOf ByteArray.empty y493 x8_2⟩ : S121))
                          (case aB => exact (by repeat (first | (with_reducible first | exact HB.out | apply below_alloc | apply pw_below_drewN | apply below_drew1 | refine below_set ?_ GE484.out) | exact HB.out)))
                          (case aF => exact (fun _ _ => trivial))
                          (case aO => exact (by (with_reducible repeat (first | apply Kd.R_alloc | apply Kd.R_drewN | apply Kd.R_drew)); exact HO_7.out))
                          (case aS => exact (below_size (by repeat (first | (with_reducible first | exact HB.out | apply below_alloc | apply pw_below_drewN | apply below_drew1 | refine below_set ?_ GE484.out) | exact HB.out))))
                          (case aL => have := LMc23.out; omega)
                          intro v500 w27 ho hb hg hat
                          rw [← Ny499.out] at ho
                          have n0_ := Aside0.mk (Kd.R_over' (by (with_reducible repeat (first | apply Kd.R_alloc | apply Kd.R_drewN | apply Kd.R_drew)); exact HO_12.out) (Kd.R_typed (by (with_reducible repeat (first | apply Kd.R_alloc | apply Kd.R_drewN | apply Kd.R_drew)); exact HO_7.out)) (by decide) hg)
                          have n1_ := Aside0.mk (Kd.R_over' (by (with_reducible repeat (first | apply Kd.R_alloc | apply Kd.R_drewN | apply Kd.R_drew)); exact HO_28.out) (Kd.R_typed (by (with_reducible repeat (first | apply Kd.R_alloc | apply Kd.R_drewN | apply Kd.R_drew)); exact HO_7.out)) (by decide) hg)
                          have n2_ := Aside0.mk (blk_grown (g := gb484) (o := .cells #[.string a0_0, .string a0_1, .int .i64 a0_2, .bool a0_3, .string a0_4, .slice A0_5 l0_5.length c0_5] 43 (0, 0)) (by (with_reducible repeat (first | refine blk_drewN ?_ _ | refine blk_drew ?_ | refine blk_alloc ?_ _)); exact BK484.out) hg (Kd.R_ne HO_7.out BK484.out (by decide)))
                          have n3_ := Aside0.mk (hb)
                          have n4_ := Aside0.mk (ho)
                          clear HO_12
                          clear HO_28
                          clear BK484
                          clear HB
                          clear HO_7
                          have HO_12 := n0_
                          have HO_28 := n1_
                          have BK484 := n2_
                          have HB := n3_
                          have HO501 := n4_
                          clear n0_ n1_ n2_ n3_ n4_
                          clear ho hb hg hat
                          refine hK.out _ _ ?_
                          clear hK K
                          refine norm_ (a' := ?_) ?_ ?_
                          rotate_left
                          · show Act.put _ (some 49) _ = _
                            simp only [Act.put, List.setIfInBounds_toArray, List.set_cons_zero, List.set_cons_succ, i64_w, i32_w]
                            rfl
                          refine pure_ (i := 12) (N := some 7) (v := ?_) (a' := ?_) #[true, true, true, true, true, true, true, true, true, true, true, true, true] rfl rfl (any_of HT_.out (by kernel_rfl)) (fun _ _ _ h => h) (Or.inl ⟨by rfl, ?_⟩) ?_ ?_
                          rotate_left
                          · intro w'
                            go_simp
                            with_reducible rfl
                          rotate_left
                          · simp only [Act.put, List.setIfInBounds_toArray, List.set_cons_zero, List.set_cons_succ, i64_w, i32_w]
                            rfl
                          refine done_ (done_of HT_.out (by kernel_rfl)) ?_
                          try go_wp2
                          go_roundg k2
                          case measure => have := HJ1.out; have := HK2.out; omega
                          case rel => exact ⟨(y499), (wrap64 (x8_2 + 1)), (by first | rfl | (simp; done) | (simp [*]; done) | (simp; (generalize ByteArray.toList _ = z_); cases z_ <;> rfl)), H', ⟨by have := HJ1.out; have := HK2.out; omega⟩, ⟨by (with_reducible repeat (first | apply Kd.R_alloc | apply Kd.R_drewN | apply Kd.R_drew)); exact HO501.out⟩, ⟨by (with_reducible repeat (first | apply Kd.R_alloc | apply Kd.R_drewN | apply Kd.R_drew)); exact HO_12.out⟩, ⟨by (with_reducible repeat (first | apply Kd.R_alloc | apply Kd.R_drewN | apply Kd.R_drew)); exact HO_28.out⟩, ⟨by (with_reducible repeat (first | refine blk_drewN ?_ _ | refine blk_drew ?_ | refine blk_alloc ?_ _)); exact BK484.out⟩, ⟨by repeat (first | (with_reducible first | exact HB.out | apply below_alloc | apply pw_below_drewN | apply below_drew1 | refine below_set ?_ GE484.out) | exact HB.out)⟩⟩
                        · rw [if_neg c23] at H
                          exact absurd H (by simp)
                      · rw [if_neg c22] at H
                        exact absurd H (by simp)
                  · rw [if_neg c19] at H
                    exact absurd H (by simp)
                · rw [if_neg c18] at H
                  exact absurd H (by simp)
              · rw [if_neg c17] at H
                have c17b0 : decide (x8_2 < 6) = false := decide_eq_false c17
                clear c17
                replace H := Option.bind_eq_some_iff.mp H
                obtain ⟨t502, A280, H⟩ := H
                replace H : (if t502.size + 1 ≤ 9223372036854775807 then (some (t502 ++ (⟨#[10]⟩ : ByteArray))) else (none)) = some r := H
                have A28 := Aside0.mk A280
                clear A280
                by_cases c29 : t502.size + 1 ≤ 9223372036854775807
                · rw [if_pos c29] at H
                  have c29b0 := eq_true c29
                  have c29b1 : decide (t502.size + 1 ≤ 9223372036854775807) = true := decide_eq_true c29
                  try have c29b2 : (9223372036854775807 < t502.size + 1) = False := eq_false (Nat.not_lt.2 c29)
                  obtain rfl := Option.some.inj H
                  obtain ⟨Ao30, co30, eo30⟩ := Kd.R_slice HO_7.out
                  subst eo30
                  go_wp2_with (first | ((with_reducible refine gate_callee (f := 80) rfl ?_); refine goesL_ (some 51) rfl rfl Tryz.func80 (by kernel_rfl) rfl #[.slice Ao30 x7_2.length co30] rfl (by (try simp only [List.map_toArray, List.map_cons, List.map_nil]); first | done | rfl | (simp only [List.length_drop, List.length_take]; rfl)) ?_; (with_reducible refine (wicketref03_Print.calls k2 _ _ x7_2 t502 _ ?side1 ?side2 A28.out).mono ?_); (case side1 => repeat (first | exact (Kd.R_reads' HO_7.out).2.2 | (with_reducible refine Kd.C_alloc ?_ _) | (with_reducible refine Kd.C_drewN ?_ _) | (with_reducible refine Kd.C_drew ?_))); (case side2 => exact (Kd.R_reads' HO_7.out).2.1); rintro e w31 ⟨rfl, hb⟩; refine ⟨_, rfl, ?_⟩; have n0_ := Aside0.mk (Kd.R_below (by (with_reducible repeat (first | apply Kd.R_alloc | apply Kd.R_drewN | apply Kd.R_drew)); exact HO_7.out) hb); have n1_ := Aside0.mk (Kd.R_below (by (with_reducible repeat (first | apply Kd.R_alloc | apply Kd.R_drewN | apply Kd.R_drew)); exact HO_12.out) hb); have n2_ := Aside0.mk (Kd.R_below (by (with_reducible repeat (first | apply Kd.R_alloc | apply Kd.R_drewN | apply Kd.R_drew)); exact HO_28.out) hb); have n3_ := Aside0.mk (blk_below (g := gb484) (o := .cells #[.string a0_0, .string a0_1, .int .i64 a0_2, .bool a0_3, .string a0_4, .slice A0_5 l0_5.length c0_5] 43 (0, 0)) (by (with_reducible repeat (first | refine blk_drewN ?_ _ | refine blk_drew ?_ | refine blk_alloc ?_ _)); exact BK484.out) hb); have n4_ := Aside0.mk (below_step (by repeat (first | (with_reducible first | exact HB.out | apply below_alloc | apply pw_below_drewN | apply below_drew1 | refine below_set ?_ GE484.out) | exact HB.out)) hb); clear HO_7; clear HO_12; clear HO_28; clear BK484; clear HB; have HO_7 := n0_; have HO_12 := n1_; have HO_28 := n2_; have BK484 := n3_; have HB := n4_; clear n0_ n1_ n2_ n3_ n4_; (try clear hb); (try clear hb2); (try clear hk); (try clear hi)))
                  go_ret
                  exact ⟨by first | rfl | (simp [errW_none, errW_some] <;> rfl) | (simp [*, errW_none, errW_some] <;> rfl) | (simp; (generalize ByteArray.toList _ = z_); cases z_ <;> rfl), by repeat (first | (with_reducible first | exact HB.out | apply below_alloc | apply pw_below_drewN | apply below_drew1 | refine below_set ?_ GE484.out) | exact HB.out)⟩
                · rw [if_neg c29] at H
                  exact absurd H (by simp)
        · rw [if_neg c9] at H
          exact absurd H (by simp)
      · rw [if_neg c8] at H
        exact absurd H (by simp)
end Go.Proofs.YtmimipgmhgalaaaGreatDoor.PAll
end
section
namespace Go.Proofs.YtmimipgmhgalaaaGreatDoor.Pure
open Go.RowKit Go.Proofs.YtmimipgmhgalaaaGreatDoorW.PrintWords Go.Proofs.YtmimipgmhgalaaaGreatDoor.Plain Go.Proofs.YtmimipgmhgalaaaGreatDoor.Spec Go.Proofs.YtmimipgmhgalaaaGreatDoor.PAll
set_option linter.unusedSimpArgs false
set_option linter.unusedVariables false
abbrev wDevice : ByteArray := ⟨#[100, 101, 118, 105, 99, 101]⟩
abbrev wCiba : ByteArray := ⟨#[99, 105, 98, 97]⟩
abbrev wBoth : ByteArray := ⟨#[99, 105, 98, 97, 32, 100, 101, 118, 105, 99, 101]⟩
abbrev wYes : ByteArray := ⟨#[121, 101, 115]⟩
def grW (g : Int) : ByteArray := if g = 1 then wDevice else if g = 2 then wCiba else wBoth
def pgW (b : Bool) : ByteArray := if b = true then wYes else ⟨#[]⟩
def six (c : ClT) : List S68 := [⟨⟨#[105, 100]⟩, c.i⟩, ⟨⟨#[115, 101, 99, 114, 101, 116]⟩, c.s⟩, ⟨⟨#[103, 114, 97, 110, 116, 115]⟩, grW c.gr⟩, ⟨⟨#[112, 105, 110, 103]⟩, pgW c.pg⟩, ⟨⟨#[117, 114, 108]⟩, c.u⟩, ⟨⟨#[115, 99, 111, 112, 101]⟩, bs (joinedL c.sc)⟩]
def lineP (c : ClT) : List S68 := keepL (six c)
def lineB (c : ClT) : List UInt8 := printL (lineP c) ++ [10]
structure Fits (c : ClT) : Prop where
  i : c.i.size ≤ 64
  s : c.s.size ≤ 256
  u : c.u.size ≤ 256
  g : c.gr = 1 ∨ c.gr = 2 ∨ c.gr = 3
  j : (joinedL c.sc).length ≤ 256
  n : c.sc.length ≤ 32
theorem within_len {l : List UInt8} {a b c : Nat} (h : withinL l a b c = true) : l.length ≤ b := by
  unfold withinL at h
  simp only [Bool.and_eq_true, decide_eq_true_eq] at h
  exact h.2.2
theorem fits_of (c : ClT) (h : checkL c = true) : Fits c := by
  unfold checkL at h
  simp only [Bool.and_eq_true, decide_eq_true_eq] at h
  obtain ⟨⟨⟨⟨h1, h2⟩, h3⟩, h4⟩, h5⟩ := h
  have e1 := within_len h1
  have e2 := within_len h2
  rw [data_len] at e1 e2
  unfold scopesOk at h5
  simp only [Bool.and_eq_true, decide_eq_true_eq] at h5
  refine ⟨e1, e2, ?_, by omega, ?_, ?_⟩
  · unfold urlL at h4
    by_cases hp : c.pg = true
    · rw [if_pos hp] at h4
      simp only [Bool.and_eq_true] at h4
      have := within_len h4.1.2
      rw [data_len] at this
      exact this
    · rw [if_neg hp] at h4
      have := of_decide_eq_true h4
      have hz : c.u.data.toList.length = c.u.size := data_len _
      rw [this] at hz
      simp at hz
      omega
  · apply Classical.byContradiction
    intro hn
    have := h5.1
    unfold scopesL at this
    rw [if_pos (by omega)] at this
    cases this
  · rw [← h5.2, List.length_map]
    exact scopesL_len _
theorem keep_le (l : List S68) : sizeL (keepL l) ≤ sizeL l := by
  induction l with
  | nil => simp [keepL, sizeL]
  | cons p r ih =>
    unfold keepL sizeL at ih ⊢
    rw [List.filter_cons]
    split
    · simp only [List.map_cons, List.sum_cons]; omega
    · simp only [List.map_cons, List.sum_cons]; omega
theorem pg_size (b : Bool) : (pgW b).size ≤ 3 := by cases b <;> decide
theorem gr_size (g : Int) : (grW g).size ≤ 11 := by
  unfold grW
  split
  · decide
  · split <;> decide
theorem six_size (c : ClT) (hf : Fits c) : sizeL (six c) ≤ 1000 := by
  have h1 := hf.i; have h2 := hf.s; have h3 := hf.u; have h4 := hf.j
  have h5 := pg_size c.pg
  have h6 := gr_size c.gr
  have h7 : (bs (joinedL c.sc)).size = (joinedL c.sc).length := bs_size _
  unfold sizeL six
  simp only [List.map_cons, List.map_nil, List.sum_cons, List.sum_nil]
  rw [h7]
  rw [show (⟨#[105, 100]⟩ : ByteArray).size = 2 from rfl, show (⟨#[115, 101, 99, 114, 101, 116]⟩ : ByteArray).size = 6 from rfl, show (⟨#[103, 114, 97, 110, 116, 115]⟩ : ByteArray).size = 6 from rfl, show (⟨#[112, 105, 110, 103]⟩ : ByteArray).size = 4 from rfl, show (⟨#[117, 114, 108]⟩ : ByteArray).size = 3 from rfl, show (⟨#[115, 99, 111, 112, 101]⟩ : ByteArray).size = 5 from rfl]
  omega
theorem lineB_len (c : ClT) (hf : Fits c) : (lineB c).length ≤ 3001 := by
  have h1 := printL_len (lineP c)
  have h2 := keep_le (six c)
  have h3 := six_size c hf
  unfold lineB
  rw [List.length_append, List.length_singleton]
  unfold lineP at h1 ⊢
  omega
theorem line_ev (c : ClT) (hf : Fits c) : Ev (fun k => client_line.f k c.i c.s c.gr c.pg c.u c.sc) (bs (lineB c)) := by
  have hsz : 3 * sizeL (lineP c) ≤ 140737488355328 := by
    have h2 := keep_le (six c)
    have h3 := six_size c hf
    unfold lineP
    omega
  have hpr : urlform_Print.f (lineP c) = some (bs (printL (lineP c))) := by unfold urlform_Print.f; rw [if_pos hsz]; rfl
  have hlen := lineB_len c hf
  unfold lineB at hlen
  rw [List.length_append, List.length_singleton] at hlen
  have hj2 (g : List ByteArray) (hg : strings_Join.f g (⟨#[32]⟩ : ByteArray) = some (grW c.gr)) : Ev (fun k => client_line.j2 k g (pgW c.pg) c.i c.s c.gr c.pg c.u c.sc) (bs (lineB c)) := by
    refine Ev.step (f := fun _ => some (bs (lineB c))) (fun k => ?_) (Ev.now _)
    simp only [client_line.j2]
    rw [hg, Option.bind_some, show strings_Join.f c.sc (⟨#[32]⟩ : ByteArray) = some (bs (joinedL c.sc)) from by unfold strings_Join.f; rw [if_pos ⟨by have := hf.n; omega, by exact Nat.le_trans hf.j (by decide)⟩]; rfl, Option.bind_some]
    rw [show api_Pair.f [⟨⟨#[105, 100]⟩, c.i⟩, ⟨⟨#[115, 101, 99, 114, 101, 116]⟩, c.s⟩, ⟨⟨#[103, 114, 97, 110, 116, 115]⟩, grW c.gr⟩, ⟨⟨#[112, 105, 110, 103]⟩, pgW c.pg⟩, ⟨⟨#[117, 114, 108]⟩, c.u⟩, ⟨⟨#[115, 99, 111, 112, 101]⟩, bs (joinedL c.sc)⟩] = some (lineP c) from by unfold api_Pair.f; rw [if_pos (by simp)]; rfl, Option.bind_some, hpr, Option.bind_some, if_pos (by rw [bs_size]; omega)]
    unfold lineB
    rw [← bs_append]
    rfl
  have hj1 (g : List ByteArray) (hg : strings_Join.f g (⟨#[32]⟩ : ByteArray) = some (grW c.gr)) : Ev (fun k => client_line.j1 k g c.i c.s c.gr c.pg c.u c.sc) (bs (lineB c)) := by
    have h := hj2 g hg
    refine Ev.step (fun k => ?_) h
    simp only [client_line.j1]
    cases hp : c.pg with
    | true => rw [if_pos rfl]; rfl
    | false => rw [if_neg (by simp)]; rfl
  unfold client_line.f
  rcases hf.g with hg | hg | hg
  · refine Ev.pos (by rw [hg]; decide) (Ev.step (fun k => ?_) (hj1 [wDevice] (by rw [hg]; decide +kernel)))
    simp only [client_line.j0]
    rw [if_neg (by rw [hg]; decide), if_pos (by decide)]
    rfl
  · refine Ev.neg (by rw [hg]; decide) (Ev.pos (by decide) (Ev.step (fun k => ?_) (hj1 [wCiba] (by rw [hg]; decide +kernel))))
    simp only [client_line.j0]
    rw [if_pos (by rw [hg]; decide)]
    rfl
  · refine Ev.neg (by rw [hg]; decide) (Ev.pos (by decide) (Ev.step (fun k => ?_) (hj1 [wCiba, wDevice] (by rw [hg]; decide +kernel))))
    simp only [client_line.j0]
    rw [if_neg (by rw [hg]; decide), if_pos (by decide)]
    rfl
theorem refprint_ev (l : List S68) (hl : sizeL l ≤ 1048576) : Ev (fun k => wicketref03_Print.f k (l.map to61)) (bs (printL l)) := by
  have h := refprint_loop l hl l.length 0 (by omega)
  rw [List.take_zero] at h
  unfold wicketref03_Print.f
  exact h
theorem keep_snoc (l : List S68) (i : Nat) (h : i < l.length) : keepL (l.take (i + 1)) = keepL (l.take i) ++ (if l[i].f1.toList = [] then [] else [l[i]]) := by
  unfold keepL
  rw [List.take_succ_eq_append_getElem h, List.filter_append, List.filter_cons, List.filter_nil]
  congr 1
  by_cases e : l[i].f1.toList = []
  · rw [if_pos e, e]; rfl
  · rw [if_neg e, if_pos]
    simp [e]
theorem said_loop (c : ClT) (hf : Fits c) : ∀ (m i : Nat), i + m = 6 → Ev (fun k => wicketref11_said.l0 k ((keepL ((six c).take i)).map to61) (i : Int) ((six c).map (·.f0)) ((six c).map (·.f1))) (bs (lineB c)) := by
  have h6 : (six c).length = 6 := rfl
  have hn0 : ((six c).map (·.f0)).length = 6 := rfl
  have hn1 : ((six c).map (·.f1)).length = 6 := rfl
  intro m
  induction m with
  | zero =>
    intro i hi
    have h2 := keep_le (six c)
    have h3 := six_size c hf
    have hlen := lineB_len c hf
    unfold lineB at hlen
    rw [List.length_append, List.length_singleton] at hlen
    obtain rfl : i = 6 := by omega
    refine Ev.step (fun k => by simp only [wicketref11_said.l0]; rw [if_neg (by omega), List.take_of_length_le (by omega)]; rfl) (Ev.bind (refprint_ev (lineP c) (by unfold lineP; omega)) ?_)
    refine Ev.pos (by rw [bs_size]; omega) (Ev.eq (Ev.now _) ?_)
    unfold lineB
    rw [← bs_append]
    rfl
  | succ m ih =>
    intro i hi
    have hlt : i < (six c).length := by omega
    have hr0 : rdOf ByteArray.empty ((six c).map (·.f0)) (i : Int) = (six c)[i].f0 := by rw [rdOf_get _ _ i (by omega), List.getElem_map]
    have hr1 : rdOf ByteArray.empty ((six c).map (·.f1)) (i : Int) = (six c)[i].f1 := by rw [rdOf_get _ _ i (by omega), List.getElem_map]
    have hs := keep_snoc (six c) i hlt
    have hw : wrap64 ((i : Int) + 1) = ((i + 1 : Nat) : Int) := by rw [w64 (by omega) (by omega)]; rfl
    have hk : ((keepL ((six c).take i)).map to61).length ≤ 6 := by
      rw [List.length_map]
      unfold keepL
      have := List.length_filter_le (fun q : S68 => !(q.f1.toList == [])) ((six c).take i)
      have h2 := List.length_take_le i (six c)
      omega
    refine Ev.step (fun k => ?_) (ih (i + 1) (by omega))
    simp only [wicketref11_said.l0]
    rw [if_pos (by omega), if_pos (by omega), if_pos (by omega), hr1, hr0, hw, hs]
    by_cases e : (six c)[i].f1.toList = []
    · rw [if_pos e, if_pos e, List.append_nil]
    · rw [if_neg e, if_neg e, if_pos (by omega), if_pos (by omega), List.map_append]
      rfl
theorem said_ev (c : ClT) (hf : Fits c) : Ev (fun k => wicketref11_said.f k c.i c.s c.gr c.pg c.u c.sc) (bs (lineB c)) := by
  have hl := said_loop c hf 6 0 (by omega)
  have hj0 : Ev (fun k => wicketref11_said.j0 k [(⟨#[]⟩ : ByteArray), wDevice, wCiba, wBoth] (pgW c.pg) c.i c.s c.gr c.pg c.u c.sc) (bs (lineB c)) := by
    have hg : rdOf ByteArray.empty [(⟨#[]⟩ : ByteArray), wDevice, wCiba, wBoth] c.gr = grW c.gr := by
      rcases hf.g with hg | hg | hg <;> rw [hg] <;> rfl
    have hg0 : 0 ≤ c.gr ∧ c.gr < 4 := by rcases hf.g with hg | hg | hg <;> rw [hg] <;> decide
    refine Ev.step (f := fun k => (wicketref11_Joined.f k c.sc).bind fun t492 => wicketref11_said.l0 k ([] : List S121) 0 [(⟨#[105, 100]⟩ : ByteArray), (⟨#[115, 101, 99, 114, 101, 116]⟩ : ByteArray), (⟨#[103, 114, 97, 110, 116, 115]⟩ : ByteArray), (⟨#[112, 105, 110, 103]⟩ : ByteArray), (⟨#[117, 114, 108]⟩ : ByteArray), (⟨#[115, 99, 111, 112, 101]⟩ : ByteArray)] [c.i, c.s, grW c.gr, pgW c.pg, c.u, t492]) (fun k => ?_) ?_
    · simp only [wicketref11_said.j0]
      rw [if_pos hg0.1, if_pos (show c.gr < ([(⟨#[]⟩ : ByteArray), wDevice, wCiba, wBoth].length : Int) from hg0.2), hg]
    · refine Ev.bind (joined_ev c.sc (by have := hf.n; omega) (by have := hf.j; omega)) ?_
      exact hl
  unfold wicketref11_said.f
  simp only [Option.bind_some]
  cases hp : c.pg with
  | true => rw [hp] at hj0; exact Ev.pos rfl hj0
  | false => rw [hp] at hj0; exact Ev.neg (by simp) hj0
end Go.Proofs.YtmimipgmhgalaaaGreatDoor.Pure
end
section
namespace Go.Proofs.YtmimipgmhgalaaaGreatDoor.Spec
open Go.Proofs.YtmimipgmhgalaaaGreatDoor.PAll Go.Proofs.YtmimipgmhgalaaaGreatDoor.Pure
def sL (v : ByteArray) : List ByteArray := (scopesL v.data.toList).1.map bs
def takeL (n v : ByteArray) (c : ClT) : Option (ClT × Bool) :=
  if n = ⟨#[105, 100]⟩ then some ({ c with i := v }, true)
  else if n = ⟨#[115, 101, 99, 114, 101, 116]⟩ then some ({ c with s := v }, true)
  else if n = ⟨#[117, 114, 108]⟩ then some ({ c with u := v }, true)
  else if n = ⟨#[112, 105, 110, 103]⟩ then some ({ c with pg := v.toList != [] }, v.toList == [] || v.toList == [121, 101, 115])
  else if n = ⟨#[103, 114, 97, 110, 116, 115]⟩ then some ({ c with gr := (grantsL (sL v) c.gr).1 }, (grantsL (sL v) c.gr).2 && (scopesL v.data.toList).2 == 0)
  else if n = ⟨#[115, 99, 111, 112, 101]⟩ then some ({ c with sc := sL v }, (scopesL v.data.toList).2 == 0)
  else none
def smallB (c : ClT) : Bool := decide (c.i.size ≤ 140737488355328 ∧ c.s.size ≤ 140737488355328 ∧ c.u.size ≤ 140737488355328 ∧ c.sc.length ≤ 140737488355328 ∧ (joinedL c.sc).length ≤ 140737488355328)
def lineL : List S68 → List S68 → ClT → Option (ClT × Bool)
  | [], _, c => if smallB c = true then some (c, checkL c) else none
  | p :: r, seen, c => match takeL p.f0 p.f1 c with
    | none => some (c, false)
    | some (c', ok) => if seen.any (namedF p.f0) = true then some (c, false) else if ok = true then lineL r (seen ++ [p]) c' else some (c', false)
theorem lineL_cons (p : S68) (r seen : List S68) (c : ClT) : lineL (p :: r) seen c = match takeL p.f0 p.f1 c with
    | none => some (c, false)
    | some (c', ok) => if seen.any (namedF p.f0) = true then some (c, false) else if ok = true then lineL r (seen ++ [p]) c' else some (c', false) := rfl
def zC : ClT := ⟨⟨#[]⟩, ⟨#[]⟩, 0, false, ⟨#[]⟩, []⟩
def flatC (r : ClT × Bool) : ByteArray × ByteArray × Int × Bool × ByteArray × List ByteArray × Bool := (r.1.i, r.1.s, r.1.gr, r.1.pg, r.1.u, r.1.sc, r.2)
end Go.Proofs.YtmimipgmhgalaaaGreatDoor.Spec
namespace Go.Proofs.YtmimipgmhgalaaaGreatDoor.PAll
open Go.RowKit Go.Proofs.YtmimipgmhgalaaaGreatDoorW.PrintWords Go.Proofs.YtmimipgmhgalaaaGreatDoor.Plain Go.Proofs.YtmimipgmhgalaaaGreatDoor.Spec Go.Proofs.YtmimipgmhgalaaaGreatDoor.Pure
set_option linter.unusedVariables false
set_option linter.unusedSimpArgs false
def client_parseLine.f (a0 : ByteArray) : Option (ByteArray × ByteArray × Int × Bool × ByteArray × List ByteArray × Bool) :=
  if a0.size ≤ 140737488355328 then (if (parse a0.data.toList).2.1 = 0 then (lineL ((parse a0.data.toList).1.map mk34) [] zC).map flatC else some (flatC (zC, false))) else none
theorem zRule (w : World) : (zeroValue 137).run Tryz.prog w = .ok (.agg #[.nilFunc]) w := by kernel_rfl
theorem look_there (w : World) (mb : Nat) (hb : w.heap[mb]? = some (.map ruleTab 6)) (n : ByteArray) (i : Nat) (v : Value) (h : Instr.findNow .string (.string n) ruleTab.toList 0 = some (some (i, v))) :
    (Instr.lookup 133 (.map (some mb)) (.string n) true).run Tryz.prog w = .ok (.tuple #[v, .bool true]) w := by
  have hk : ∀ e, (Instr.checkKey e 10000 9 (.string n)).run Tryz.prog w = .ok () w := fun e => MapKept.run_checkKey Tryz.underlying9 (show MapKept.IsKey .string (.string n) from trivial) e 9999
  simp [Instr.lookup, run_underlying Tryz.underlying133, MapKept.run_getObj_map hb, hk, MapKept.run_findKey Tryz.underlying9 h, Result.andThen]
theorem look_none (w : World) (mb : Nat) (hb : w.heap[mb]? = some (.map ruleTab 6)) (n : ByteArray) (h : Instr.findNow .string (.string n) ruleTab.toList 0 = some none) :
    (Instr.lookup 133 (.map (some mb)) (.string n) true).run Tryz.prog w = .ok (.tuple #[.agg #[.nilFunc], .bool false]) w := by
  have hk : ∀ e, (Instr.checkKey e 10000 9 (.string n)).run Tryz.prog w = .ok () w := fun e => MapKept.run_checkKey Tryz.underlying9 (show MapKept.IsKey .string (.string n) from trivial) e 9999
  simp [Instr.lookup, run_underlying Tryz.underlying133, MapKept.run_getObj_map hb, hk, MapKept.run_findKey Tryz.underlying9 h, Result.andThen, zRule]
theorem bytes_ne {a b : ByteArray} (h : ¬ a = b) : (a == b) = false := by
  have e : (a == b) = (a.data == b.data) := rfl
  rw [e, beq_eq_false_iff_ne]
  intro e2
  exact h (by cases a; cases b; simp_all)
theorem find_none (n : ByteArray) (v : ByteArray) (c : ClT) (h : takeL n v c = none) : Instr.findNow .string (.string n) ruleTab.toList 0 = some none := by
  unfold takeL at h
  split at h
  · cases h
  · rename_i h1
    split at h
    · cases h
    · rename_i h2
      split at h
      · cases h
      · rename_i h3
        split at h
        · cases h
        · rename_i h4
          split at h
          · cases h
          · rename_i h5
            split at h
            · cases h
            · rename_i h6
              simp [ruleTab, Instr.findNow, Instr.sameNow, bytes_ne h1, bytes_ne h2, bytes_ne h3, bytes_ne h4, bytes_ne h5, bytes_ne h6]
structure Taken (n v : ByteArray) (c c' : ClT) (ok : Bool) (i f : Nat) : Prop where
  find : Instr.findNow .string (.string n) ruleTab.toList 0 = some (some (i, ruleV f))
  enters : ∀ args w, (callFunc f args).run Tryz.prog w = .ok (.enter f args) w
  call : ∀ (w0 w : World) (g : Nat) (sv : Value), Cl w0 w g c.i c.s c.gr c.pg c.u sv → Kd.R Kd.string 9 w w0.heap.size (fun k => g < k) sv c.sc →
    Calls Tryz.prog f #[.pointer (some ⟨g, 0, none⟩), .string v] w fun e w' => e = .returned (.bool ok) ∧ ∃ sv', Cl w0 w' g c'.i c'.s c'.gr c'.pg c'.u sv' ∧ Kd.R Kd.string 9 w' w0.heap.size (fun k => g < k) sv' c'.sc ∧ KeepBut w w' g none
theorem R_kept {w w' : World} {base g : Nat} {sv : Value} {l : List ByteArray} (h : Kd.R Kd.string 9 w base (fun k => g < k) sv l) (hk : KeepBut w w' g none) : Kd.R Kd.string 9 w' base (fun k => g < k) sv l := Kd.R_keep h hk (fun k hk' e => by omega)
theorem take_any (n v : ByteArray) (c c' : ClT) (ok : Bool) (h : takeL n v c = some (c', ok)) : ∃ i f, Taken n v c c' ok i f := by
  obtain ⟨k, hk⟩ := Ev.rounds (scopes_ev v)
  unfold takeL at h
  split at h
  · rename_i hn
    subst hn
    simp only [Option.some.injEq, Prod.mk.injEq] at h
    obtain ⟨rfl, rfl⟩ := h
    exact ⟨0, 117, by kernel_rfl, enters_of Tryz.func117 (by kernel_rfl) rfl, fun w0 w g sv hC hR => (take_id g _ _ _ _ _ _ v w0 w hC).mono fun e w' ⟨he, h1, h2⟩ => ⟨he, sv, h1, R_kept hR h2, h2⟩⟩
  · split at h
    · rename_i hn
      subst hn
      simp only [Option.some.injEq, Prod.mk.injEq] at h
      obtain ⟨rfl, rfl⟩ := h
      exact ⟨1, 118, by kernel_rfl, enters_of Tryz.func118 (by kernel_rfl) rfl, fun w0 w g sv hC hR => (take_secret g _ _ _ _ _ _ v w0 w hC).mono fun e w' ⟨he, h1, h2⟩ => ⟨he, sv, h1, R_kept hR h2, h2⟩⟩
    · split at h
      · rename_i hn
        subst hn
        simp only [Option.some.injEq, Prod.mk.injEq] at h
        obtain ⟨rfl, rfl⟩ := h
        exact ⟨2, 119, by kernel_rfl, enters_of Tryz.func119 (by kernel_rfl) rfl, fun w0 w g sv hC hR => (take_url g _ _ _ _ _ _ v w0 w hC).mono fun e w' ⟨he, h1, h2⟩ => ⟨he, sv, h1, R_kept hR h2, h2⟩⟩
      · split at h
        · rename_i hn
          subst hn
          simp only [Option.some.injEq, Prod.mk.injEq] at h
          obtain ⟨rfl, rfl⟩ := h
          exact ⟨3, 120, by kernel_rfl, enters_of Tryz.func120 (by kernel_rfl) rfl, fun w0 w g sv hC hR => (take_ping g _ _ _ _ _ _ v w0 w hC).mono fun e w' ⟨he, h1, h2⟩ => ⟨he, sv, h1, R_kept hR h2, h2⟩⟩
        · split at h
          · rename_i hn
            subst hn
            simp only [Option.some.injEq, Prod.mk.injEq] at h
            obtain ⟨rfl, rfl⟩ := h
            exact ⟨4, 121, by kernel_rfl, enters_of Tryz.func121 (by kernel_rfl) rfl, fun w0 w g sv hC hR => (take_grants k g _ _ _ _ _ _ v _ _ hk w0 w hC).mono fun e w' ⟨he, h1, h2⟩ => ⟨he, sv, h1, R_kept hR h2, h2⟩⟩
          · split at h
            · rename_i hn
              subst hn
              simp only [Option.some.injEq, Prod.mk.injEq] at h
              obtain ⟨rfl, rfl⟩ := h
              refine ⟨5, 122, by kernel_rfl, enters_of Tryz.func122 (by kernel_rfl) rfl, fun w0 w g sv hC hR => (take_scope k g _ _ _ _ _ _ v _ _ hk w0 w hC).mono fun e w' ⟨he, sv', h1, h2, h3⟩ => ⟨he, sv', h1, ?_, h3⟩⟩
              have hg := blk_lt hC.b
              exact Kd.R_mono (Kd.R_lower (R_above h2) hC.o.size) (fun k hk => by omega)
            · cases h
theorem run_store_nilFunc {P : Program} {w : World} {a : Addr} {m : Mode} : (store a .nilFunc m).run P w = stored P w a .nilFunc m := run_store P w a _ m rfl
theorem run_store_fn {P : Program} {w : World} {a : Addr} {m : Mode} (f : Nat) : (store a (.func (.func f) #[] #[]) m).run P w = stored P w a (.func (.func f) #[] #[]) m := run_store P w a _ m rfl
attribute [local go_sem] run_store_nilFunc run_store_fn
structure LineInv (w wr : World) (mb : Nat) (Af : Option Addr) (cf : Nat) (L : List S68) (c : ClT) (sv : Value) : Prop where
  cl : Cl w wr (w.heap.size + 1) c.i c.s c.gr c.pg c.u sv
  rs : wr.heap[w.heap.size]? = some (.cells (clCells ⟨#[]⟩ ⟨#[]⟩ 0 false ⟨#[]⟩ (.slice none 0 0)) 40 (0, 0))
  sc : Kd.R Kd.string 9 wr w.heap.size (fun k => w.heap.size + 1 < k) sv c.sc
  fm : Kd.R k68 68 wr w.heap.size (fun k => w.heap.size + 1 < k) (.slice Af L.length cf) L
  mp : wr.heap[mb]? = some (.map ruleTab 6)
  mn : w.heap.size + 1 < mb
section
variable {w wr : World} {mb : Nat} {Af : Option Addr} {cf : Nat} {L : List S68} {c : ClT} {sv : Value} (h : LineInv w wr mb Af cf L c sv)
include h
theorem LineInv.step {w' : World} (hb : Below wr.heap.size wr w') : LineInv w w' mb Af cf L c sv :=
  ⟨h.cl.step hb, blk_below h.rs hb, Kd.R_below h.sc hb, Kd.R_below h.fm hb, blk_below h.mp hb, h.mn⟩
theorem LineInv.turn {w' : World} {c' : ClT} {sv' : Value} (hk : KeepBut wr w' (w.heap.size + 1) none) (hc : Cl w w' (w.heap.size + 1) c'.i c'.s c'.gr c'.pg c'.u sv') (hr : Kd.R Kd.string 9 w' w.heap.size (fun k => w.heap.size + 1 < k) sv' c'.sc) : LineInv w w' mb Af cf L c' sv' :=
  ⟨hc, (hk.2 _ (blk_lt h.rs) (by omega) (by simp)).trans h.rs, hr, Kd.R_keep h.fm hk (fun k hk e => by omega), (hk.2 _ (blk_lt h.mp) (by have := h.mn; omega) (by simp)).trans h.mp, h.mn⟩
end
abbrev putRes (wr : World) (g : Nat) (c : ClT) (sv : Value) : World := (((((wr.setCell ⟨g, 0, none⟩ (.string c.i)).setCell ⟨g, 1, none⟩ (.string c.s)).setCell ⟨g, 2, none⟩ (.int .i64 c.gr)).setCell ⟨g, 3, none⟩ (.bool c.pg)).setCell ⟨g, 4, none⟩ (.string c.u)).setCell ⟨g, 5, none⟩ sv
theorem LineInv.done {w wr : World} {mb : Nat} {Af : Option Addr} {cf : Nat} {L : List S68} {c : ClT} {sv : Value} (h : LineInv w wr mb Af cf L c sv) :
    (putRes wr w.heap.size c sv).heap[w.heap.size]? = some (.cells (clCells c.i c.s c.gr c.pg c.u sv) 40 (0, 0)) ∧ Kd.R Kd.string 9 (putRes wr w.heap.size c sv) w.heap.size (fun _ => True) sv c.sc ∧ Below w.heap.size w (putRes wr w.heap.size c sv) := by
  refine ⟨blk_put (blk_put (blk_put (blk_put (blk_put (blk_put h.rs 0 _ rfl) 1 _ rfl) 2 _ rfl) 3 _ rfl) 4 _ rfl) 5 _ rfl, R_any (?_ : Kd.R Kd.string 9 _ w.heap.size (fun k => w.heap.size + 1 < k) sv c.sc), ?_⟩
  · have hne : ∀ k, w.heap.size + 1 < k → k ≠ w.heap.size := fun k hk e => by omega
    exact Kd.R_far (Kd.R_far (Kd.R_far (Kd.R_far (Kd.R_far (Kd.R_far h.sc hne _) hne _) hne _) hne _) hne _) hne _
  · have hg : w.heap.size ≤ w.heap.size := Nat.le_refl _
    exact below_set (below_set (below_set (below_set (below_set (below_set h.cl.o hg) hg) hg) hg) hg) hg
theorem rule_at {wr w3 : World} {p0 p1 : ByteArray} {f : Nat} (hb : Below ((wr.alloc (.cells #[.string p0, .string p1] 68)).alloc (.cells #[.func (.func f) #[] #[]] 137)).heap.size ((wr.alloc (.cells #[.string p0, .string p1] 68)).alloc (.cells #[.func (.func f) #[] #[]] 137)) w3) :
    w3.cell? ⟨wr.heap.size + 1, 0, none⟩ = some (.func (.func f) #[] #[]) := by
  have h := blk_new (wr.alloc (.cells #[.string p0, .string p1] 68)) (.cells #[.func (.func f) #[] #[]] 137)
  have hs : (wr.alloc (.cells #[.string p0, .string p1] 68)).heap.size = wr.heap.size + 1 := by show (wr.heap.push _).size = _; simp
  rw [hs] at h
  rw [blk_cell (blk_below h hb)]
  rfl
theorem pair_at {wr w3 : World} {p0 p1 : ByteArray} {f : Nat} (hb : Below ((wr.alloc (.cells #[.string p0, .string p1] 68)).alloc (.cells #[.func (.func f) #[] #[]] 137)).heap.size ((wr.alloc (.cells #[.string p0, .string p1] 68)).alloc (.cells #[.func (.func f) #[] #[]] 137)) w3) :
    w3.cell? ⟨wr.heap.size, 1, none⟩ = some (.string p1) := by
  rw [blk_cell (blk_below (blk_alloc (blk_new wr (.cells #[.string p0, .string p1] 68)) (.cells #[.func (.func f) #[] #[]] 137)) hb)]
  rfl
theorem line_start (w w1 : World) (Af : Option Addr) (cf : Nat) (L : List S68)
    (hb : Below ((w.alloc (.cells (clCells ⟨#[]⟩ ⟨#[]⟩ 0 false ⟨#[]⟩ (.slice none 0 0)) 40)).alloc (.cells (clCells ⟨#[]⟩ ⟨#[]⟩ 0 false ⟨#[]⟩ (.slice none 0 0)) 40)).heap.size ((w.alloc (.cells (clCells ⟨#[]⟩ ⟨#[]⟩ 0 false ⟨#[]⟩ (.slice none 0 0)) 40)).alloc (.cells (clCells ⟨#[]⟩ ⟨#[]⟩ 0 false ⟨#[]⟩ (.slice none 0 0)) 40)) w1)
    (ho : Kd.R k68 68 w1 ((w.alloc (.cells (clCells ⟨#[]⟩ ⟨#[]⟩ 0 false ⟨#[]⟩ (.slice none 0 0)) 40)).alloc (.cells (clCells ⟨#[]⟩ ⟨#[]⟩ 0 false ⟨#[]⟩ (.slice none 0 0)) 40)).heap.size (fun _ => True) (.slice Af L.length cf) L) :
    LineInv w (w1.alloc (.map ruleTab 6)) w1.heap.size Af cf L zC (.slice none 0 0) := by
  have h1 := blk_new w (.cells (clCells ⟨#[]⟩ ⟨#[]⟩ 0 false ⟨#[]⟩ (.slice none 0 0)) 40)
  have h2 := blk_new (w.alloc (.cells (clCells ⟨#[]⟩ ⟨#[]⟩ 0 false ⟨#[]⟩ (.slice none 0 0)) 40)) (.cells (clCells ⟨#[]⟩ ⟨#[]⟩ 0 false ⟨#[]⟩ (.slice none 0 0)) 40)
  have hB : Below w.heap.size w ((w.alloc (.cells (clCells ⟨#[]⟩ ⟨#[]⟩ 0 false ⟨#[]⟩ (.slice none 0 0)) 40)).alloc (.cells (clCells ⟨#[]⟩ ⟨#[]⟩ 0 false ⟨#[]⟩ (.slice none 0 0)) 40)) := below_alloc (below_alloc (Below.refl _ _) _) _
  have hs1 : (w.alloc (.cells (clCells ⟨#[]⟩ ⟨#[]⟩ 0 false ⟨#[]⟩ (.slice none 0 0)) 40)).heap.size = w.heap.size + 1 := by show (w.heap.push _).size = _; simp
  have hs2 : ((w.alloc (.cells (clCells ⟨#[]⟩ ⟨#[]⟩ 0 false ⟨#[]⟩ (.slice none 0 0)) 40)).alloc (.cells (clCells ⟨#[]⟩ ⟨#[]⟩ 0 false ⟨#[]⟩ (.slice none 0 0)) 40)).heap.size = w.heap.size + 2 := by show ((w.heap.push _).push _).size = _; simp
  rw [hs1] at h2
  have hz := hb.size
  have r1 := blk_below (blk_alloc h1 (.cells (clCells ⟨#[]⟩ ⟨#[]⟩ 0 false ⟨#[]⟩ (.slice none 0 0)) 40)) hb
  have r2 := blk_below h2 hb
  have hBw : Below w.heap.size w w1 := hB.trans (hb.mono (by omega))
  have ho' := Kd.R_lower (Kd.R_mono (Kd.R_bound ho) (ok' := fun k => w.heap.size + 1 < k) (fun k hk => by have := hk.2.1; omega)) (show w.heap.size ≤ _ by omega)
  refine LineInv.mk ⟨blk_alloc r2 _, below_alloc hBw _, by omega⟩ (blk_alloc r1 _) (Kd.R_nil _ _ _ _ _) (Kd.R_alloc ho' _) (blk_new w1 _) (by omega)
theorem line_first (w w1 : World) (Af : Option Addr) (cf : Nat) (L : List S68)
    (hb : Below ((w.alloc (.cells (clCells ⟨#[]⟩ ⟨#[]⟩ 0 false ⟨#[]⟩ (.slice none 0 0)) 40)).alloc (.cells (clCells ⟨#[]⟩ ⟨#[]⟩ 0 false ⟨#[]⟩ (.slice none 0 0)) 40)).heap.size ((w.alloc (.cells (clCells ⟨#[]⟩ ⟨#[]⟩ 0 false ⟨#[]⟩ (.slice none 0 0)) 40)).alloc (.cells (clCells ⟨#[]⟩ ⟨#[]⟩ 0 false ⟨#[]⟩ (.slice none 0 0)) 40)) w1)
    (ho : Kd.R k68 68 w1 ((w.alloc (.cells (clCells ⟨#[]⟩ ⟨#[]⟩ 0 false ⟨#[]⟩ (.slice none 0 0)) 40)).alloc (.cells (clCells ⟨#[]⟩ ⟨#[]⟩ 0 false ⟨#[]⟩ (.slice none 0 0)) 40)).heap.size (fun _ => True) (.slice Af L.length cf) L) :
    Cl w w1 (w.heap.size + 1) ⟨#[]⟩ ⟨#[]⟩ 0 false ⟨#[]⟩ (.slice none 0 0) ∧ w1.heap[w.heap.size]? = some (.cells (clCells ⟨#[]⟩ ⟨#[]⟩ 0 false ⟨#[]⟩ (.slice none 0 0)) 40 (0, 0)) := by
  have h1 := blk_new w (.cells (clCells ⟨#[]⟩ ⟨#[]⟩ 0 false ⟨#[]⟩ (.slice none 0 0)) 40)
  have h2 := blk_new (w.alloc (.cells (clCells ⟨#[]⟩ ⟨#[]⟩ 0 false ⟨#[]⟩ (.slice none 0 0)) 40)) (.cells (clCells ⟨#[]⟩ ⟨#[]⟩ 0 false ⟨#[]⟩ (.slice none 0 0)) 40)
  have hB : Below w.heap.size w ((w.alloc (.cells (clCells ⟨#[]⟩ ⟨#[]⟩ 0 false ⟨#[]⟩ (.slice none 0 0)) 40)).alloc (.cells (clCells ⟨#[]⟩ ⟨#[]⟩ 0 false ⟨#[]⟩ (.slice none 0 0)) 40)) := below_alloc (below_alloc (Below.refl _ _) _) _
  have hs1 : (w.alloc (.cells (clCells ⟨#[]⟩ ⟨#[]⟩ 0 false ⟨#[]⟩ (.slice none 0 0)) 40)).heap.size = w.heap.size + 1 := by show (w.heap.push _).size = _; simp
  have hs2 : ((w.alloc (.cells (clCells ⟨#[]⟩ ⟨#[]⟩ 0 false ⟨#[]⟩ (.slice none 0 0)) 40)).alloc (.cells (clCells ⟨#[]⟩ ⟨#[]⟩ 0 false ⟨#[]⟩ (.slice none 0 0)) 40)).heap.size = w.heap.size + 2 := by show ((w.heap.push _).push _).size = _; simp
  rw [hs1] at h2
  have hz := hb.size
  have r1 := blk_below (blk_alloc h1 (.cells (clCells ⟨#[]⟩ ⟨#[]⟩ 0 false ⟨#[]⟩ (.slice none 0 0)) 40)) hb
  have r2 := blk_below h2 hb
  have hBw : Below w.heap.size w w1 := hB.trans (hb.mono (by omega))
  exact ⟨⟨r2, hBw, by omega⟩, r1⟩
set_option maxHeartbeats 8000000 in
set_option maxRecDepth 100000 in
theorem client_parseLine.calls (a0 : ByteArray) (r1 r2 : ByteArray) (r3 : Int) (r4 : Bool) (r5 : ByteArray) (r6 : List ByteArray) (r7 : Bool) (w : World) (h : client_parseLine.f a0 = some (r1, r2, r3, r4, r5, r6, r7)) :
    Calls Tryz.prog 51 #[.string a0] w fun e w' => ∃ v0_ : Value, e = .returned (.tuple #[.agg #[.string r1, .string r2, .int .i64 r3, .bool r4, .string r5, v0_], .bool r7]) ∧ Kd.R Kd.string 9 w' w.heap.size (fun _ => True) v0_ r6 ∧ Below w.heap.size w w' := by
  unfold client_parseLine.f at h
  split at h
  · rename_i hs
    obtain ⟨kp, hkp⟩ := Ev.rounds (parse_ev a0 hs)
    split at h
    · rename_i he
      have hkp' : urlform_Parse.f kp a0 = some ((parse a0.data.toList).1.map mk34, 0, (parse a0.data.toList).2.2) := by rw [hkp]; unfold res34; rw [he]
      obtain ⟨L, hL⟩ : ∃ L, (parse a0.data.toList).1.map mk34 = L := ⟨_, rfl⟩
      obtain ⟨pl, hpl⟩ : ∃ pl, (parse a0.data.toList).2.2 = pl := ⟨_, rfl⟩
      rw [hL, hpl] at hkp'
      rw [hL] at h
      obtain ⟨R, hR⟩ : ∃ R, some R = lineL L [] zC := by
        cases hl : lineL L [] zC with
        | none => rw [hl] at h; cases h
        | some R => exact ⟨R, rfl⟩
      rw [← hR] at h
      have HH := Lib.hid h
      have HL := Lib.hid hR
      clear h hkp he hL hpl hR
      have hu137 := Tryz.underlying137
      have hu68 := Tryz.underlying68
      have hu40 := Tryz.underlying40
      go_enter Tryz.func51, Tryz.ntmps51
      go_wp2_with (first | (go_at_call 82; refine (urlform_Parse.calls kp a0 _ _ _ _ hkp').mono ?_; rintro e w1 ⟨v0, rfl, ho, hb⟩; obtain ⟨Af, cf, rfl⟩ := Kd.R_slice ho; have hI := line_start w w1 Af cf L hb ho; clear ho hb) | (go_at_call 83; refine (client_rules.calls _).mono ?_; rintro e w2 ⟨rfl, rfl⟩))
      go_loopw [26] (fun v26 wr => ∃ (j : Nat) (c : ClT) (sv : Value), v26 = .int .i64 (j : Int) ∧ j ≤ L.length ∧ LineInv w wr w1.heap.size Af cf L c sv ∧ some R = lineL (L.drop j) (L.take j) c) (fun v26 _ => L.length - (intOf v26).toNat)
      case atStart => exact ⟨0, zC, _, rfl, Nat.zero_le _, hI, HL.out⟩
      case round =>
        obtain ⟨j, c, sv, rfl, hj, hJ, hG⟩ := hrel
        clear hI
        obtain ⟨As, cs, rfl⟩ := Kd.R_slice hJ.sc
        have hF := Kd.R_reads' hJ.fm
        have hlen : L.length ≤ 9223372036854775807 := hF.2.2.2.1
        by_cases hlt : j < L.length
        · obtain ⟨ad, hA, hx0, hx1⟩ := at_T68 hF.2.2 (j : Int) (by omega) (by omega)
          subst hA
          have hp : rd_T68 L (j : Int) = L[j] := by simp [rd_T68, hlt]
          rw [hp] at hx0 hx1
          rw [List.drop_eq_getElem_cons hlt] at hG
          have htk := List.take_succ_eq_append_getElem hlt
          simp only [Int.toNat_natCast] at hx0 hx1
          clear hp
          generalize hpk : L[j] = p at *
          have hP1 : Below wr.heap.size wr (wr.alloc (.cells #[.string p.f0, .string p.f1] 68)) := below_alloc (Below.refl _ _) _
          have hJ1 := hJ.step hP1
          have hPb := blk_new wr (.cells #[.string p.f0, .string p.f1] 68)
          have hLj : (L.take j).length = j := by rw [List.length_take]; omega
          have hmono := fun o => hJ1.step (below_alloc (Below.refl _ _) o)
          have hall := fun (o : Obj) => all_twice (some ad) cf (L.take j) p.f0 p.f1 wr.heap.size ((wr.alloc (.cells #[.string p.f0, .string p.f1] 68)).alloc o) (C_take (Kd.R_reads' (hmono o).fm).2.2 j hj) (blk_alloc hPb o)
          rw [hLj] at hall
          cases hT : takeL p.f0 p.f1 c with
          | none =>
            have hlk := look_none (wr.alloc (.cells #[.string p.f0, .string p.f1] 68)) w1.heap.size hJ1.mp p.f0 (find_none _ _ _ hT)
            have hall0 := hall (.cells #[.nilFunc] 137)
            have hJ2 := hmono (.cells #[.nilFunc] 137)
            clear hall hmono
            have HJ := Lib.hid hJ
            have HJ1 := Lib.hid hJ1
            have HJ2 := Lib.hid hJ2
            have hh := HH.out
            have hR : some R = some (c, false) := by rw [hG, lineL_cons, hT]
            rw [hR] at hh
            simp only [Option.map_some, flatC, Option.some.injEq, Prod.mk.injEq] at hh
            have HR := Lib.hid hh
            clear hJ hJ1 hJ2 hG hR hh
            go_wp2_with (go_at_call 84; refine hall0.mono ?_; rintro e w3 ⟨rfl, hb3⟩; have hJ3 := HJ2.out.step hb3; have cc0 := hJ3.cl.c0; have cc1 := hJ3.cl.c1; have cc2 := hJ3.cl.c2; have cc3 := hJ3.cl.c3; have cc4 := hJ3.cl.c4; have cc5 := hJ3.cl.c5; have rc0 := blk_cell hJ3.rs 0; have rc1 := blk_cell hJ3.rs 1; have rc2 := blk_cell hJ3.rs 2; have rc3 := blk_cell hJ3.rs 3; have rc4 := blk_cell hJ3.rs 4; have rc5 := blk_cell hJ3.rs 5; have rf0 := blk_frozen hJ3.rs 0; have rf1 := blk_frozen hJ3.rs 1; have rf2 := blk_frozen hJ3.rs 2; have rf3 := blk_frozen hJ3.rs 3; have rf4 := blk_frozen hJ3.rs 4; have rf5 := blk_frozen hJ3.rs 5; have hE := Lib.hid hJ3.done)
            refine bodyPost_ret (results_ct rfl _ _ w.heap.size 40 (clCells c.i c.s c.gr c.pg c.u (.slice As c.sc.length cs)) (0, 0) _ rfl hE.out.1 hu40 rfl (by kernel_rfl)) rfl ?_
            obtain ⟨h1, h2, h3, h4, h5, h6, h7⟩ := HR.out
            exact ⟨_, by rw [← h1, ← h2, ← h3, ← h4, ← h5, ← h7]; rfl, by rw [← h6]; exact hE.out.2.1, hE.out.2.2⟩
          | some q =>
            obtain ⟨c', ok⟩ := q
            obtain ⟨ix, f, T⟩ := take_any _ _ _ _ _ hT
            have hlk := look_there (wr.alloc (.cells #[.string p.f0, .string p.f1] 68)) w1.heap.size hJ1.mp p.f0 ix (ruleV f) T.find
            have hall0 := hall (.cells #[.func (.func f) #[] #[]] 137)
            have hJ2 := hmono (.cells #[.func (.func f) #[] #[]] 137)
            have eF := T.enters
            clear hall hmono
            have HJ := Lib.hid hJ
            have HJ1 := Lib.hid hJ1
            have HJ2 := Lib.hid hJ2
            have HT := Lib.hid T
            clear T hJ hJ1 hJ2
            cases htw : (L.take j).any (namedF p.f0) with
            | true =>
              rw [htw] at hall0
              have hh := HH.out
              have hR : some R = some (c, false) := by rw [hG, lineL_cons, hT]; show (if (L.take j).any (namedF p.f0) = true then _ else _) = _; rw [htw]; rfl
              rw [hR] at hh
              simp only [Option.map_some, flatC, Option.some.injEq, Prod.mk.injEq] at hh
              have HR := Lib.hid hh
              clear hG hR hh
              go_wp2_with (go_at_call 84; refine hall0.mono ?_; rintro e w3 ⟨rfl, hb3⟩; have hJ3 := HJ2.out.step hb3; have cc0 := hJ3.cl.c0; have cc1 := hJ3.cl.c1; have cc2 := hJ3.cl.c2; have cc3 := hJ3.cl.c3; have cc4 := hJ3.cl.c4; have cc5 := hJ3.cl.c5; have rc0 := blk_cell hJ3.rs 0; have rc1 := blk_cell hJ3.rs 1; have rc2 := blk_cell hJ3.rs 2; have rc3 := blk_cell hJ3.rs 3; have rc4 := blk_cell hJ3.rs 4; have rc5 := blk_cell hJ3.rs 5; have rf0 := blk_frozen hJ3.rs 0; have rf1 := blk_frozen hJ3.rs 1; have rf2 := blk_frozen hJ3.rs 2; have rf3 := blk_frozen hJ3.rs 3; have rf4 := blk_frozen hJ3.rs 4; have rf5 := blk_frozen hJ3.rs 5; have hE := Lib.hid hJ3.done)
              refine bodyPost_ret (results_ct rfl _ _ w.heap.size 40 (clCells c.i c.s c.gr c.pg c.u (.slice As c.sc.length cs)) (0, 0) _ rfl hE.out.1 hu40 rfl (by kernel_rfl)) rfl ?_
              obtain ⟨h1, h2, h3, h4, h5, h6, h7⟩ := HR.out
              exact ⟨_, by rw [← h1, ← h2, ← h3, ← h4, ← h5, ← h7]; rfl, by rw [← h6]; exact hE.out.2.1, hE.out.2.2⟩
            | false =>
              rw [htw] at hall0
              have hG2 : some R = if ok = true then lineL (L.drop (j + 1)) (L.take (j + 1)) c' else some (c', false) := by rw [hG, lineL_cons, hT, htk]; show (if (L.take j).any (namedF p.f0) = true then _ else _) = _; rw [htw]; rfl
              clear hG
              cases ok with
              | true =>
                rw [if_pos rfl] at hG2
                have HG2 := Lib.hid hG2
                clear hG2
                go_wp2_with (first | (go_at_call 84; refine hall0.mono ?_; rintro e w3 ⟨rfl, hb3⟩; have hJ3 := HJ2.out.step hb3; have hq := rule_at hb3; have hpv := pair_at hb3) | (go_at_fn f; refine (HT.out.call w w3 (w.heap.size + 1) _ hJ3.cl hJ3.sc).mono ?_; rintro e w4 ⟨rfl, sv', hC', hR', hK'⟩))
                exact ⟨⟨j + 1, c', sv', rfl, by omega, hJ3.turn hK' hC' hR', HG2.out⟩, by simp [intOf]; omega⟩
              | false =>
                rw [if_neg (by simp)] at hG2
                have hh := HH.out
                rw [hG2] at hh
                simp only [Option.map_some, flatC, Option.some.injEq, Prod.mk.injEq] at hh
                have HR := Lib.hid hh
                clear hG2 hh
                go_wp2_with (first | (go_at_call 84; refine hall0.mono ?_; rintro e w3 ⟨rfl, hb3⟩; have hJ3 := HJ2.out.step hb3; have hq := rule_at hb3; have hpv := pair_at hb3) | (go_at_fn f; refine (HT.out.call w w3 (w.heap.size + 1) _ hJ3.cl hJ3.sc).mono ?_; rintro e w4 ⟨rfl, sv', hC', hR', hK'⟩; have hJ4 := hJ3.turn hK' hC' hR'; clear hq hpv hC' hK'; obtain ⟨As', cs', rfl⟩ := Kd.R_slice hR'; have cc0 := hJ4.cl.c0; have cc1 := hJ4.cl.c1; have cc2 := hJ4.cl.c2; have cc3 := hJ4.cl.c3; have cc4 := hJ4.cl.c4; have cc5 := hJ4.cl.c5; have rc0 := blk_cell hJ4.rs 0; have rc1 := blk_cell hJ4.rs 1; have rc2 := blk_cell hJ4.rs 2; have rc3 := blk_cell hJ4.rs 3; have rc4 := blk_cell hJ4.rs 4; have rc5 := blk_cell hJ4.rs 5; have rf0 := blk_frozen hJ4.rs 0; have rf1 := blk_frozen hJ4.rs 1; have rf2 := blk_frozen hJ4.rs 2; have rf3 := blk_frozen hJ4.rs 3; have rf4 := blk_frozen hJ4.rs 4; have rf5 := blk_frozen hJ4.rs 5; have hE := Lib.hid hJ4.done))
                refine bodyPost_ret (results_ct rfl _ _ w.heap.size 40 (clCells c'.i c'.s c'.gr c'.pg c'.u (.slice As' c'.sc.length cs')) (0, 0) _ rfl hE.out.1 hu40 rfl (by kernel_rfl)) rfl ?_
                obtain ⟨h1, h2, h3, h4, h5, h6, h7⟩ := HR.out
                exact ⟨_, by rw [← h1, ← h2, ← h3, ← h4, ← h5, ← h7]; rfl, by rw [← h6]; exact hE.out.2.1, hE.out.2.2⟩
        · have hge : decide (j < L.length) = false := decide_eq_false hlt
          rw [List.drop_eq_nil_of_le (by omega)] at hG
          have hsm : smallB c = true := by
            cases hb : smallB c with
            | true => rfl
            | false => unfold lineL at hG; rw [hb] at hG; simp at hG
          have hG2 : some R = some (c, checkL c) := by rw [hG]; unfold lineL; rw [hsm]; rfl
          have hh := HH.out
          rw [hG2] at hh
          simp only [Option.map_some, flatC, Option.some.injEq, Prod.mk.injEq] at hh
          have HR := Lib.hid hh
          unfold smallB at hsm
          obtain ⟨s1, s2, s3, s4, s5⟩ := of_decide_eq_true hsm
          obtain ⟨kc, hkc⟩ := Ev.rounds (check_ev c ⟨s1, s2, s3, s4, s5⟩)
          have hS := Kd.R_reads' hJ.sc
          have HJ := Lib.hid hJ
          have hJ3 := hJ.step (Below.drew (Below.refl _ wr))
          clear hG hG2 hh hsm s1 s2 s3 s4 s5 hJ hS hF
          have hS := Kd.R_reads' hJ3.sc
          have HS1 := Lib.hid hS.2.2
          have HS2 := Lib.hid hS.2.1
          have HK := Lib.hid hkc
          clear hS hkc
          have cc0 := hJ3.cl.c0
          have cc1 := hJ3.cl.c1
          have cc2 := hJ3.cl.c2
          have cc3 := hJ3.cl.c3
          have cc4 := hJ3.cl.c4
          have cc5 := hJ3.cl.c5
          have rc0 := blk_cell hJ3.rs 0
          have rc1 := blk_cell hJ3.rs 1
          have rc2 := blk_cell hJ3.rs 2
          have rc3 := blk_cell hJ3.rs 3
          have rc4 := blk_cell hJ3.rs 4
          have rc5 := blk_cell hJ3.rs 5
          have rf0 := blk_frozen hJ3.rs 0
          have rf1 := blk_frozen hJ3.rs 1
          have rf2 := blk_frozen hJ3.rs 2
          have rf3 := blk_frozen hJ3.rs 3
          have rf4 := blk_frozen hJ3.rs 4
          have rf5 := blk_frozen hJ3.rs 5
          have hE := Lib.hid hJ3.done
          clear hE
          have HJ3 := Lib.hid hJ3
          clear hJ3
          go_wp2
          go_region_with (go_at_call 23; refine (client_Check.calls kc c.i c.s c.gr c.pg c.u As cs c.sc _ _ HS1.out HS2.out HK.out).mono ?_; rintro e w3 ⟨rfl, hb3⟩; have hJ4 := HJ3.out.step hb3; have cc0 := hJ4.cl.c0; have cc1 := hJ4.cl.c1; have cc2 := hJ4.cl.c2; have cc3 := hJ4.cl.c3; have cc4 := hJ4.cl.c4; have cc5 := hJ4.cl.c5; have rc0 := blk_cell hJ4.rs 0; have rc1 := blk_cell hJ4.rs 1; have rc2 := blk_cell hJ4.rs 2; have rc3 := blk_cell hJ4.rs 3; have rc4 := blk_cell hJ4.rs 4; have rc5 := blk_cell hJ4.rs 5; have rf0 := blk_frozen hJ4.rs 0; have rf1 := blk_frozen hJ4.rs 1; have rf2 := blk_frozen hJ4.rs 2; have rf3 := blk_frozen hJ4.rs 3; have rf4 := blk_frozen hJ4.rs 4; have rf5 := blk_frozen hJ4.rs 5; have hE := Lib.hid hJ4.done)
          all_goals
            go_wp2
            refine bodyPost_ret (results_ct rfl _ _ w.heap.size 40 (clCells c.i c.s c.gr c.pg c.u (.slice As c.sc.length cs)) (0, 0) _ rfl hE.out.1 hu40 rfl (by kernel_rfl)) rfl ?_
            obtain ⟨h1, h2, h3, h4, h5, h6, h7⟩ := HR.out
            have hn : (numC (checkL c) == 0) = checkL c := by cases checkL c <;> rfl
            refine ⟨_, ?_, by rw [← h6]; exact hE.out.2.1, hE.out.2.2⟩
            rw [← h1, ← h2, ← h3, ← h4, ← h5, ← hn.trans h7]
            rfl
    · rename_i he
      have hkp' : urlform_Parse.f kp a0 = some ((parse a0.data.toList).1.map mk34, (parse a0.data.toList).2.1, (parse a0.data.toList).2.2) := hkp
      simp only [flatC, zC, Option.some.injEq, Prod.mk.injEq] at h
      obtain ⟨rfl, rfl, rfl, rfl, rfl, rfl, rfl⟩ := h
      obtain ⟨L, hL⟩ : ∃ L, (parse a0.data.toList).1.map mk34 = L := ⟨_, rfl⟩
      obtain ⟨pl, hpl⟩ : ∃ pl, (parse a0.data.toList).2.2 = pl := ⟨_, rfl⟩
      obtain ⟨ec, hec⟩ : ∃ ec, (parse a0.data.toList).2.1 = ec := ⟨_, rfl⟩
      rw [hL, hpl, hec] at hkp'
      rw [hec] at he
      have hne : (ec == 0) = false := beq_eq_false_iff_ne.2 he
      clear hkp hec hL hpl
      have hu40 := Tryz.underlying40
      go_enter Tryz.func51, Tryz.ntmps51
      go_wp2_with (go_at_call 82; refine (urlform_Parse.calls kp a0 _ _ _ _ hkp').mono ?_; rintro e w1 ⟨v0, rfl, ho, hb⟩; obtain ⟨Af, cf, rfl⟩ := Kd.R_slice ho; obtain ⟨hC, hZ⟩ := line_first w w1 Af cf L hb ho; clear ho hb; have cc0 := hC.c0; have cc1 := hC.c1; have cc2 := hC.c2; have cc3 := hC.c3; have cc4 := hC.c4; have cc5 := hC.c5; have rc0 := blk_cell hZ 0; have rc1 := blk_cell hZ 1; have rc2 := blk_cell hZ 2; have rc3 := blk_cell hZ 3; have rc4 := blk_cell hZ 4; have rc5 := blk_cell hZ 5; have rf0 := blk_frozen hZ 0; have rf1 := blk_frozen hZ 1; have rf2 := blk_frozen hZ 2; have rf3 := blk_frozen hZ 3; have rf4 := blk_frozen hZ 4; have rf5 := blk_frozen hZ 5)
      have hblk := blk_put (blk_put (blk_put (blk_put (blk_put (blk_put hZ 0 (.string ⟨#[]⟩) rfl) 1 (.string ⟨#[]⟩) rfl) 2 (.int .i64 0) rfl) 3 (.bool false) rfl) 4 (.string ⟨#[]⟩) rfl) 5 (.slice none 0 0) rfl
      refine bodyPost_ret (results_ct rfl _ _ w.heap.size 40 (clCells ⟨#[]⟩ ⟨#[]⟩ 0 false ⟨#[]⟩ (.slice none 0 0)) (0, 0) _ rfl hblk hu40 rfl (by kernel_rfl)) rfl ?_
      have hg : w.heap.size ≤ w.heap.size := Nat.le_refl _
      exact ⟨_, rfl, Kd.R_nil _ _ _ _ _, below_set (below_set (below_set (below_set (below_set (below_set hC.o hg) hg) hg) hg) hg) hg⟩
  · cases h
end Go.Proofs.YtmimipgmhgalaaaGreatDoor.PAll
end
section
namespace Go.Proofs.YtmimipgmhgalaaaGreatDoor.PAll
open Go.RowKit Go.Proofs.YtmimipgmhgalaaaGreatDoorW.PrintWords Go.Proofs.YtmimipgmhgalaaaGreatDoorW.PrintLast Go.Proofs.YtmimipgmhgalaaaGreatDoorW.PrintMore
attribute [local go_sem] max2_int min2_int max_two min_two max_three min_three max_four min_four
set_option linter.unusedVariables false
set_option linter.unusedSimpArgs false
def client_copied.f (a0_0 : ByteArray) (a0_1 : ByteArray) (a0_2 : Int) (a0_3 : Bool) (a0_4 : ByteArray) (l0_5 : List ByteArray) : Option (ByteArray × ByteArray × Int × Bool × ByteArray × List ByteArray) := (slices_Clone_string_string.f l0_5).bind fun t145 => (some (a0_0, a0_1, a0_2, a0_3, a0_4, t145))
set_option maxHeartbeats 8000000 in
set_option maxRecDepth 100000 in
theorem client_copied.calls (a0_0 : ByteArray) (a0_1 : ByteArray) (a0_2 : Int) (a0_3 : Bool) (a0_4 : ByteArray) (A0_5 : Option Addr) (c0_5 : Nat) (l0_5 : List ByteArray) (r1 : ByteArray) (r2 : ByteArray) (r3 : Int) (r4 : Bool) (r5 : ByteArray) (r6 : List ByteArray) (w : World) (hr0_5 : Kd.C Kd.string w A0_5 l0_5.length l0_5) (hc0_5 : l0_5.length ≤ c0_5) (h : client_copied.f a0_0 a0_1 a0_2 a0_3 a0_4 l0_5 = some (r1, r2, r3, r4, r5, r6)) :
 Calls Tryz.prog 61 #[.agg #[.string a0_0, .string a0_1, .int .i64 a0_2, .bool a0_3, .string a0_4, .slice A0_5 l0_5.length c0_5]] w fun e w' => ∃ v5_ : Value, e = .returned (.agg #[.string r1, .string r2, .int .i64 r3, .bool r4, .string r5, v5_]) ∧ Kd.R Kd.string 9 w' w.heap.size (fun _ => True) v5_ r6 ∧ Below w.heap.size w w' := by
 have hu40 := Tryz.underlying40
 have HR0_5 := Aside0.mk hr0_5
 have HC0_5 := Aside0.mk hc0_5
 clear hr0_5 hc0_5
 have HB := Aside0.mk (Below.refl w.heap.size w)
 have H : ((slices_Clone_string_string.f l0_5).bind fun t145 => (some (a0_0, a0_1, a0_2, a0_3, a0_4, t145))) = some (r1, r2, r3, r4, r5, r6) := h
 clear h
 replace H := Option.bind_eq_some_iff.mp H
 obtain ⟨t145, A20, H⟩ := H
 replace H : (some (a0_0, a0_1, a0_2, a0_3, a0_4, t145)) = some (r1, r2, r3, r4, r5, r6) := H
 have A2 := Aside0.mk A20
 clear A20
 simp only [Option.some.injEq, Prod.mk.injEq] at H
 obtain ⟨rfl, rfl, rfl, rfl, rfl, rfl⟩ := H
 go_enter Tryz.func61, Tryz.ntmps61
 go_wp2_with (first | ((with_reducible refine gate_dst (N := 1) rfl ?_); refine box_event ?hg (N := 1) ?hd (cs := #[.string a0_0, .string a0_1, .int .i64 a0_2, .bool a0_3, .string a0_4, .slice A0_5 l0_5.length c0_5]) (t := 40) ?hr ?_; (case hd => rfl); (case hg => rfl); (case hr => (go_simp; done)); intro gb143 hg w3 hbox hb; have BK143 := Aside0.mk hbox; have GW143 := Aside0.mk ((by rw [hg]; exact (below_size HB.out) : w.heap.size ≤ gb143)); have GE143 := Aside0.mk ((by rw [hg]; exact (below_size HB.out) : w.heap.size ≤ gb143)); replace HB := Aside0.mk (below_step HB.out hb); clear hb hbox hg) | ((with_reducible refine gate_dst (N := 2) rfl ?_); refine box_event ?hg (N := 2) ?hd (cs := #[.string (⟨#[]⟩ : ByteArray), .string (⟨#[]⟩ : ByteArray), .int .i64 0, .bool false, .string (⟨#[]⟩ : ByteArray), .slice none 0 0]) (t := 40) ?hr ?_; (case hd => rfl); (case hg => rfl); (case hr => (go_simp; done)); intro gb144 hg w4 hbox hb; have BK144 := Aside0.mk hbox; have GW144 := Aside0.mk ((by rw [hg]; exact (below_size HB.out) : w.heap.size ≤ gb144)); have GE144 := Aside0.mk ((by rw [hg]; exact (below_size HB.out) : w.heap.size ≤ gb144)); replace HB := Aside0.mk (below_step HB.out hb); have NB143_144 := Aside0.mk ((by rw [hg]; exact Nat.ne_of_lt (blk_lt (g := gb143) (o := .cells #[.string a0_0, .string a0_1, .int .i64 a0_2, .bool a0_3, .string a0_4, .slice A0_5 l0_5.length c0_5] 40 (0, 0)) BK143.out) : gb143 ≠ gb144)); have NB144_143 := Aside0.mk ((by rw [hg]; exact Nat.ne_of_gt (blk_lt (g := gb143) (o := .cells #[.string a0_0, .string a0_1, .int .i64 a0_2, .bool a0_3, .string a0_4, .slice A0_5 l0_5.length c0_5] 40 (0, 0)) BK143.out) : gb144 ≠ gb143)); replace BK143 := Aside0.mk (blk_below (g := gb143) (o := .cells #[.string a0_0, .string a0_1, .int .i64 a0_2, .bool a0_3, .string a0_4, .slice A0_5 l0_5.length c0_5] 40 (0, 0)) BK143.out hb); clear hb hbox hg; have hnb5 := NB143_144.out; have hnc5 := NB144_143.out; obtain ⟨hcz6_0, hcz6_1, hcz6_2, hcz6_3, hcz6_4, hcz6_5, hfz6_0, hfz6_1, hfz6_2, hfz6_3, hfz6_4, hfz6_5⟩ := cz6_ BK143.out) | ((with_reducible refine gate_callee (f := 93) rfl ?_); refine goesL_ (some 5) rfl rfl Tryz.func93 (by kernel_rfl) rfl #[.slice A0_5 l0_5.length c0_5] rfl (by ((try simp only [List.map_toArray, List.map_cons, List.map_nil]); (rfl))) ?_; (with_reducible refine (slices_Clone_string_string.calls _ _ l0_5 t145 _ ?side1 ?side2 A2.out).mono ?_); (case side1 => repeat (exact (Kd.C_below HR0_5.out HB.out))); (case side2 => exact HC0_5.out); rintro e w7 ⟨v146, rfl, ho0, hb⟩; refine ⟨_, rfl, ?_⟩; have HO147 := Aside0.mk (Kd.R_lower ho0 (below_size HB.out)); replace BK143 := Aside0.mk (blk_below (g := gb143) (o := .cells #[.string a0_0, .string a0_1, .int .i64 a0_2, .bool a0_3, .string a0_4, .slice A0_5 l0_5.length c0_5] 40 (0, 0)) BK143.out hb); replace BK144 := Aside0.mk (blk_below (g := gb144) (o := .cells #[.string (⟨#[]⟩ : ByteArray), .string (⟨#[]⟩ : ByteArray), .int .i64 0, .bool false, .string (⟨#[]⟩ : ByteArray), .slice none 0 0] 40 (0, 0)) BK144.out hb); replace HB := Aside0.mk (below_step HB.out hb); clear hb ho0; obtain ⟨Ao8, co8, eo8⟩ := Kd.R_slice HO147.out; subst eo8; obtain ⟨hcz9_0, hcz9_1, hcz9_2, hcz9_3, hcz9_4, hcz9_5, hfz9_0, hfz9_1, hfz9_2, hfz9_3, hfz9_4, hfz9_5⟩ := cz6_ BK143.out; obtain ⟨hcz10_0, hcz10_1, hcz10_2, hcz10_3, hcz10_4, hcz10_5, hfz10_0, hfz10_1, hfz10_2, hfz10_3, hfz10_4, hfz10_5⟩ := cz6_ BK144.out))
 refine bodyPost_ret (results_cell_row rfl _ _ gb144 40 #[.string a0_0, .string a0_1, .int .i64 a0_2, .bool a0_3, .string a0_4, .slice Ao8 t145.length co8] (0, 0) _ rfl (by (with_reducible repeat (first | refine blk_drewN ?_ _  | refine blk_drew ?_  | refine blk_alloc ?_ _)); refine blk_put (cs := #[.string a0_0, .string a0_1, .int .i64 a0_2, .bool a0_3, .string a0_4, .slice none 0 0]) ?_ 5 _ rfl; (with_reducible repeat (first | refine blk_drewN ?_ _  | refine blk_drew ?_  | refine blk_alloc ?_ _)); refine blk_put (cs := #[.string a0_0, .string a0_1, .int .i64 a0_2, .bool a0_3, .string (⟨#[]⟩ : ByteArray), .slice none 0 0]) ?_ 4 _ rfl; (with_reducible repeat (first | refine blk_drewN ?_ _  | refine blk_drew ?_  | refine blk_alloc ?_ _)); refine blk_put (cs := #[.string a0_0, .string a0_1, .int .i64 a0_2, .bool false, .string (⟨#[]⟩ : ByteArray), .slice none 0 0]) ?_ 3 _ rfl; (with_reducible repeat (first | refine blk_drewN ?_ _  | refine blk_drew ?_  | refine blk_alloc ?_ _)); refine blk_put (cs := #[.string a0_0, .string a0_1, .int .i64 0, .bool false, .string (⟨#[]⟩ : ByteArray), .slice none 0 0]) ?_ 2 _ rfl; (with_reducible repeat (first | refine blk_drewN ?_ _  | refine blk_drew ?_  | refine blk_alloc ?_ _)); refine blk_put (cs := #[.string a0_0, .string (⟨#[]⟩ : ByteArray), .int .i64 0, .bool false, .string (⟨#[]⟩ : ByteArray), .slice none 0 0]) ?_ 1 _ rfl; (with_reducible repeat (first | refine blk_drewN ?_ _  | refine blk_drew ?_  | refine blk_alloc ?_ _)); refine blk_put (cs := #[.string (⟨#[]⟩ : ByteArray), .string (⟨#[]⟩ : ByteArray), .int .i64 0, .bool false, .string (⟨#[]⟩ : ByteArray), .slice none 0 0]) ?_ 0 _ rfl; (with_reducible repeat (first | refine blk_drewN ?_ _  | refine blk_drew ?_  | refine blk_alloc ?_ _)); refine blk_far ?_ NB144_143.out _; (with_reducible repeat (first | refine blk_drewN ?_ _  | refine blk_drew ?_  | refine blk_alloc ?_ _)); exact BK144.out) Tryz.underlying40 rfl (by kernel_rfl)) rfl ?_
 exact ⟨_, rfl, by (with_reducible repeat (first | apply Kd.R_alloc  | apply Kd.R_drewN  | apply Kd.R_drew)); exact Kd.R_mono (R_far6 (Kd.R_far (p := ⟨gb143, 5, none⟩) (Kd.R_types (Kd.R_types HO147.out BK143.out (by decide)) BK144.out (by decide)) (fun _ hk => hk.1.2) (.slice Ao8 t145.length co8)) (fun _ hk => hk.2)) (fun _ hk => trivial), by (repeat (with_reducible first | exact HB.out | refine below_set ?_ GE143.out | refine below_set ?_ GE144.out))⟩
def client_Find.l0 : Nat → ByteArray → List (S40) → Int → Int → Option (ByteArray × ByteArray × Int × Bool × ByteArray × List ByteArray × Bool)
 | 0, _, _, _, _ => none
 | k + 1, x1, x8, x9, x10 => if x10 < x9 then (if 0 ≤ x10 then (if x10 < (x8.length : Int) then (if ((rd_T40 x8 x10).f0).toList = x1.toList then ((client_copied.f ((rd_T40 x8 x10).f0) ((rd_T40 x8 x10).f1) ((rd_T40 x8 x10).f2) ((rd_T40 x8 x10).f3) ((rd_T40 x8 x10).f4) ((rd_T40 x8 x10).f5)).bind fun bt151 => (some (bt151.1, bt151.2.1, bt151.2.2.1, bt151.2.2.2.1, bt151.2.2.2.2.1, bt151.2.2.2.2.2, true))) else (client_Find.l0 k x1 x8 x9 (wrap64 (x10 + 1)))) else (none)) else (none)) else (some ((⟨#[]⟩ : ByteArray), (⟨#[]⟩ : ByteArray), 0, false, (⟨#[]⟩ : ByteArray), ([] : List ByteArray), false))
def client_Find.f (k : Nat) (l0 : List (S40)) (a1 : ByteArray) : Option (ByteArray × ByteArray × Int × Bool × ByteArray × List ByteArray × Bool) := client_Find.l0 k a1 l0 (l0.length : Int) 0
set_option maxHeartbeats 8000000 in
set_option maxRecDepth 100000 in
theorem client_Find.calls (k : Nat) (A0 : Option Addr) (c0 : Nat) (l0 : List (S40)) (a1 : ByteArray) (r1 : ByteArray) (r2 : ByteArray) (r3 : Int) (r4 : Bool) (r5 : ByteArray) (r6 : List ByteArray) (r7 : Bool) (w : World) (hr0 : Kd.C k40 w A0 l0.length l0) (hc0 : l0.length ≤ c0) (h : client_Find.f k l0 a1 = some (r1, r2, r3, r4, r5, r6, r7)) :
 Calls Tryz.prog 29 #[.slice A0 l0.length c0, .string a1] w fun e w' => ∃ v5_ : Value, e = .returned (.tuple #[.agg #[.string r1, .string r2, .int .i64 r3, .bool r4, .string r5, v5_], .bool r7]) ∧ Kd.R Kd.string 9 w' w.heap.size (fun _ => True) v5_ r6 ∧ Below w.heap.size w w' := by
 have hu40 := Tryz.underlying40
 have HR0 := Aside0.mk hr0
 have HC0 := Aside0.mk hc0
 clear hr0 hc0
 have HB := Aside0.mk (Below.refl w.heap.size w)
 have H : (client_Find.l0 k a1 l0 (l0.length : Int) 0) = some (r1, r2, r3, r4, r5, r6, r7) := h
 clear h
 have H' := Aside0.mk H
 clear H
 go_enter Tryz.func29, Tryz.ntmps29
 go_wp2_with (first | ((with_reducible refine gate_dst (N := 4) rfl ?_); refine box_event ?hg (N := 4) ?hd (cs := #[.string (⟨#[]⟩ : ByteArray), .string (⟨#[]⟩ : ByteArray), .int .i64 0, .bool false, .string (⟨#[]⟩ : ByteArray), .slice none 0 0]) (t := 40) ?hr ?_; (case hd => rfl); (case hg => rfl); (case hr => (go_simp; done)); intro gb148 hg w3 hbox hb; have BK148 := Aside0.mk hbox; have GW148 := Aside0.mk ((by rw [hg]; exact (below_size HB.out) : w.heap.size ≤ gb148)); have GE148 := Aside0.mk ((by rw [hg]; exact (below_size HB.out) : w.heap.size ≤ gb148)); replace HB := Aside0.mk (below_step HB.out hb); clear hb hbox hg))
 go_loopg [10] k (fun kq v10 w' => ∃ (x10_1 : Int) (x149000_1 : ByteArray) (x149001_1 : ByteArray) (x149002_1 : Int) (x149003_1 : Bool) (x149004_1 : ByteArray), v10 = .int .i64 x10_1 ∧ Aside0 (client_Find.l0 kq a1 l0 (l0.length : Int) x10_1 = some (r1, r2, r3, r4, r5, r6, r7)) ∧ Aside0 (kq ≤ k) ∧ Aside0 (w'.heap[gb148]? = some (.cells #[.string x149000_1, .string x149001_1, .int .i64 x149002_1, .bool x149003_1, .string x149004_1, (.slice none 0 0)] 40 (0, 0))) ∧ Aside0 (Below w.heap.size w w'))
 case atStart => exact ⟨(0), ((⟨#[]⟩ : ByteArray)), ((⟨#[]⟩ : ByteArray)), (0), (false), ((⟨#[]⟩ : ByteArray)), rfl, H', ⟨Nat.le_refl _⟩, ⟨BK148.out⟩, ⟨HB.out⟩⟩
 case round =>
  clear H'
  obtain ⟨x10_1, x149000_1, x149001_1, x149002_1, x149003_1, x149004_1, rfl, HA, HK1, BK148, HB⟩ := hrel
  cases gk with
  | zero => exact absurd HA.out (by simp [client_Find.l0])
  | succ k1 =>
   have H := HA.out
   clear HA
   simp only [client_Find.l0] at H
   by_cases c4 : x10_1 < (l0.length : Int)
   · rw [if_pos c4] at H
     have c4b0 : decide (x10_1 < (l0.length : Int)) = true := decide_eq_true c4
     clear c4
     by_cases c5 : 0 ≤ x10_1
     · rw [if_pos c5] at H
       have c5b0 : decide (0 ≤ x10_1) = true := decide_eq_true c5
       clear c5
       by_cases c6 : x10_1 < (l0.length : Int)
       · rw [if_pos c6] at H
         have c6b0 : decide (x10_1 < (l0.length : Int)) = true := decide_eq_true c6
         clear c6
         by_cases c7 : ((rd_T40 l0 x10_1).f0).toList = a1.toList
         · rw [if_pos c7] at H
           have c7b0 : (((rd_T40 l0 x10_1).f0).toList == a1.toList) = true := beq_iff_eq.mpr c7
           have c7b1 : (((rd_T40 l0 x10_1).f0).toList != a1.toList) = false := bne_eq_false_iff_eq.mpr c7
           clear c7
           replace H := Option.bind_eq_some_iff.mp H
           obtain ⟨⟨t151, t152, t153, t154, t155, t156⟩, A80, H⟩ := H
           replace H : (some (t151, t152, t153, t154, t155, t156, true)) = some (r1, r2, r3, r4, r5, r6, r7) := H
           have A8 := Aside0.mk A80
           clear A80
           simp only [Option.some.injEq, Prod.mk.injEq] at H
           obtain ⟨rfl, rfl, rfl, rfl, rfl, rfl, rfl⟩ := H
           have p149 : 0 ≤ (x10_1 : Int) := of_decide_eq_true (by assumption)
           have q149 : x10_1 < (l0.length : Int) := of_decide_eq_true (by assumption)
           obtain ⟨ad149, A149_5, c149_5, e149, hx149_0, hx149_1, hx149_2, hx149_3, hx149_4, hx149_5, hl149_5, hi149_5⟩ := at_T40 HR0.out x10_1 p149 q149
           cases e149
           replace hx149_0 := (HB.out.cell (World.block_lt_of_cell? w _ hx149_0)).trans hx149_0
           replace hx149_1 := (HB.out.cell (World.block_lt_of_cell? w _ hx149_1)).trans hx149_1
           replace hx149_2 := (HB.out.cell (World.block_lt_of_cell? w _ hx149_2)).trans hx149_2
           replace hx149_3 := (HB.out.cell (World.block_lt_of_cell? w _ hx149_3)).trans hx149_3
           replace hx149_4 := (HB.out.cell (World.block_lt_of_cell? w _ hx149_4)).trans hx149_4
           replace hx149_5 := (HB.out.cell (World.block_lt_of_cell? w _ hx149_5)).trans hx149_5
           have HR149_5 := Aside0.mk hi149_5
           have HC149_5 := Aside0.mk hl149_5
           clear hi149_5 hl149_5
           replace p149 := eq_true p149
           replace q149 := eq_true q149
           go_wp2_with (first | ((with_reducible refine gate_dst (N := 7) rfl ?_); refine box_event ?hg (N := 7) ?hd (cs := #[.string (⟨#[]⟩ : ByteArray), .string (⟨#[]⟩ : ByteArray), .int .i64 0, .bool false, .string (⟨#[]⟩ : ByteArray), .slice none 0 0]) (t := 40) ?hr ?_; (case hd => rfl); (case hg => rfl); (case hr => (go_simp; done)); intro gb150 hg w9 hbox hb; have BK150 := Aside0.mk hbox; have GW150 := Aside0.mk ((by rw [hg]; exact (below_size HB.out) : w.heap.size ≤ gb150)); have GE150 := Aside0.mk ((by rw [hg]; exact (below_size HB.out) : w.heap.size ≤ gb150)); replace HB := Aside0.mk (below_step HB.out hb); have NB148_150 := Aside0.mk ((by rw [hg]; exact Nat.ne_of_lt (blk_lt (g := gb148) (o := .cells #[.string x149000_1, .string x149001_1, .int .i64 x149002_1, .bool x149003_1, .string x149004_1, .slice none 0 0] 40 (0, 0)) BK148.out) : gb148 ≠ gb150)); have NB150_148 := Aside0.mk ((by rw [hg]; exact Nat.ne_of_gt (blk_lt (g := gb148) (o := .cells #[.string x149000_1, .string x149001_1, .int .i64 x149002_1, .bool x149003_1, .string x149004_1, .slice none 0 0] 40 (0, 0)) BK148.out) : gb150 ≠ gb148)); replace BK148 := Aside0.mk (blk_below (g := gb148) (o := .cells #[.string x149000_1, .string x149001_1, .int .i64 x149002_1, .bool x149003_1, .string x149004_1, .slice none 0 0] 40 (0, 0)) BK148.out hb); clear hb hbox hg; have hnb10 := NB150_148.out; have hnc10 := NB148_150.out; obtain ⟨hcz11_0, hcz11_1, hcz11_2, hcz11_3, hcz11_4, hcz11_5, hfz11_0, hfz11_1, hfz11_2, hfz11_3, hfz11_4, hfz11_5⟩ := cz6_ BK150.out) | ((with_reducible refine gate_callee (f := 61) rfl ?_); refine goesL_ (some 19) rfl rfl Tryz.func61 (by kernel_rfl) rfl #[.agg #[.string ((rd_T40 l0 x10_1).f0), .string ((rd_T40 l0 x10_1).f1), .int .i64 ((rd_T40 l0 x10_1).f2), .bool ((rd_T40 l0 x10_1).f3), .string ((rd_T40 l0 x10_1).f4), .slice A149_5 ((rd_T40 l0 x10_1).f5).length c149_5]] rfl (by ((try simp only [List.map_toArray, List.map_cons, List.map_nil]); (rfl))) ?_; (with_reducible refine (client_copied.calls ((rd_T40 l0 x10_1).f0) ((rd_T40 l0 x10_1).f1) ((rd_T40 l0 x10_1).f2) ((rd_T40 l0 x10_1).f3) ((rd_T40 l0 x10_1).f4) _ _ ((rd_T40 l0 x10_1).f5) t151 t152 t153 t154 t155 t156 _ ?side1 ?side2 A8.out).mono ?_); (case side1 => exact Kd.C_below HR149_5.out (by (repeat (with_reducible first | exact HB.out | refine below_set ?_ GE150.out)))); (case side2 => exact HC149_5.out); rintro e w12 ⟨v157, rfl, ho0, hb⟩; refine ⟨_, rfl, ?_⟩; have HO158 := Aside0.mk (Kd.R_lower ho0 (below_size (by (repeat (with_reducible first | exact HB.out | refine below_set ?_ GE150.out))))); replace BK148 := Aside0.mk (blk_below (g := gb148) (o := .cells #[.string x149000_1, .string x149001_1, .int .i64 x149002_1, .bool x149003_1, .string x149004_1, .slice none 0 0] 40 (0, 0)) (by (with_reducible repeat (first | refine blk_drewN ?_ _  | refine blk_drew ?_  | refine blk_alloc ?_ _)); refine blk_far ?_ NB148_150.out _; (with_reducible repeat (first | refine blk_drewN ?_ _  | refine blk_drew ?_  | refine blk_alloc ?_ _)); refine blk_far ?_ NB148_150.out _; (with_reducible repeat (first | refine blk_drewN ?_ _  | refine blk_drew ?_  | refine blk_alloc ?_ _)); refine blk_far ?_ NB148_150.out _; (with_reducible repeat (first | refine blk_drewN ?_ _  | refine blk_drew ?_  | refine blk_alloc ?_ _)); refine blk_far ?_ NB148_150.out _; (with_reducible repeat (first | refine blk_drewN ?_ _  | refine blk_drew ?_  | refine blk_alloc ?_ _)); refine blk_far ?_ NB148_150.out _; (with_reducible repeat (first | refine blk_drewN ?_ _  | refine blk_drew ?_  | refine blk_alloc ?_ _)); refine blk_far ?_ NB148_150.out _; (with_reducible repeat (first | refine blk_drewN ?_ _  | refine blk_drew ?_  | refine blk_alloc ?_ _)); exact BK148.out) hb); replace BK150 := Aside0.mk (blk_below (g := gb150) (o := .cells #[.string ((rd_T40 l0 x10_1).f0), .string ((rd_T40 l0 x10_1).f1), .int .i64 ((rd_T40 l0 x10_1).f2), .bool ((rd_T40 l0 x10_1).f3), .string ((rd_T40 l0 x10_1).f4), .slice A149_5 ((rd_T40 l0 x10_1).f5).length c149_5] 40 (0, 0)) (put6_ BK150.out _ _ _ _ _ _) hb); replace HB := Aside0.mk (below_step (by (repeat (with_reducible first | exact HB.out | refine below_set ?_ GE150.out))) hb); clear hb ho0; obtain ⟨hcz13_0, hcz13_1, hcz13_2, hcz13_3, hcz13_4, hcz13_5, hfz13_0, hfz13_1, hfz13_2, hfz13_3, hfz13_4, hfz13_5⟩ := cz6_ BK148.out; obtain ⟨Ao14, co14, eo14⟩ := Kd.R_slice HO158.out; subst eo14))
           refine bodyPost_ret (results_ct rfl _ _ gb148 40 #[.string t151, .string t152, .int .i64 t153, .bool t154, .string t155, .slice Ao14 t156.length co14] (0, 0) _ rfl (put6_ BK148.out _ _ _ _ _ _) Tryz.underlying40 rfl (by kernel_rfl)) rfl ?_
           exact ⟨_, rfl, by (with_reducible repeat (first | apply Kd.R_alloc  | apply Kd.R_drewN  | apply Kd.R_drew)); exact Kd.R_mono (R_far6 (Kd.R_types HO158.out BK148.out (by decide)) (fun _ hk => hk.2)) (fun _ hk => trivial), by (repeat (with_reducible first | exact HB.out | refine below_set ?_ GE148.out))⟩
         · rw [if_neg c7] at H
           have c7b0 : (((rd_T40 l0 x10_1).f0).toList == a1.toList) = false := beq_eq_false_iff_ne.mpr c7
           have c7b1 : (((rd_T40 l0 x10_1).f0).toList != a1.toList) = true := bne_iff_ne.mpr c7
           have H' := Aside0.mk H
           clear H
           have p149 : 0 ≤ (x10_1 : Int) := of_decide_eq_true (by assumption)
           have q149 : x10_1 < (l0.length : Int) := of_decide_eq_true (by assumption)
           obtain ⟨ad149, A149_5, c149_5, e149, hx149_0, hx149_1, hx149_2, hx149_3, hx149_4, hx149_5, hl149_5, hi149_5⟩ := at_T40 HR0.out x10_1 p149 q149
           cases e149
           replace hx149_0 := (HB.out.cell (World.block_lt_of_cell? w _ hx149_0)).trans hx149_0
           replace hx149_1 := (HB.out.cell (World.block_lt_of_cell? w _ hx149_1)).trans hx149_1
           replace hx149_2 := (HB.out.cell (World.block_lt_of_cell? w _ hx149_2)).trans hx149_2
           replace hx149_3 := (HB.out.cell (World.block_lt_of_cell? w _ hx149_3)).trans hx149_3
           replace hx149_4 := (HB.out.cell (World.block_lt_of_cell? w _ hx149_4)).trans hx149_4
           replace hx149_5 := (HB.out.cell (World.block_lt_of_cell? w _ hx149_5)).trans hx149_5
           have HR149_5 := Aside0.mk hi149_5
           have HC149_5 := Aside0.mk hl149_5
           clear hi149_5 hl149_5
           replace p149 := eq_true p149
           replace q149 := eq_true q149
           go_wp2_with (first | ((with_reducible refine gate_dst (N := 7) rfl ?_); refine box_event ?hg (N := 7) ?hd (cs := #[.string (⟨#[]⟩ : ByteArray), .string (⟨#[]⟩ : ByteArray), .int .i64 0, .bool false, .string (⟨#[]⟩ : ByteArray), .slice none 0 0]) (t := 40) ?hr ?_; (case hd => rfl); (case hg => rfl); (case hr => (go_simp; done)); intro gb150 hg w15 hbox hb; have BK150 := Aside0.mk hbox; have GW150 := Aside0.mk ((by rw [hg]; exact (below_size HB.out) : w.heap.size ≤ gb150)); have GE150 := Aside0.mk ((by rw [hg]; exact (below_size HB.out) : w.heap.size ≤ gb150)); replace HB := Aside0.mk (below_step HB.out hb); have NB148_150 := Aside0.mk ((by rw [hg]; exact Nat.ne_of_lt (blk_lt (g := gb148) (o := .cells #[.string x149000_1, .string x149001_1, .int .i64 x149002_1, .bool x149003_1, .string x149004_1, .slice none 0 0] 40 (0, 0)) BK148.out) : gb148 ≠ gb150)); have NB150_148 := Aside0.mk ((by rw [hg]; exact Nat.ne_of_gt (blk_lt (g := gb148) (o := .cells #[.string x149000_1, .string x149001_1, .int .i64 x149002_1, .bool x149003_1, .string x149004_1, .slice none 0 0] 40 (0, 0)) BK148.out) : gb150 ≠ gb148)); replace BK148 := Aside0.mk (blk_below (g := gb148) (o := .cells #[.string x149000_1, .string x149001_1, .int .i64 x149002_1, .bool x149003_1, .string x149004_1, .slice none 0 0] 40 (0, 0)) BK148.out hb); clear hb hbox hg; have hnb16 := NB150_148.out; have hnc16 := NB148_150.out; obtain ⟨hcz17_0, hcz17_1, hcz17_2, hcz17_3, hcz17_4, hcz17_5, hfz17_0, hfz17_1, hfz17_2, hfz17_3, hfz17_4, hfz17_5⟩ := cz6_ BK150.out))
           go_roundg k1
           case measure => have := HK1.out; omega
           case rel => exact ⟨(wrap64 (x10_1 + 1)), (x149000_1), (x149001_1), (x149002_1), (x149003_1), (x149004_1), rfl, H', ⟨by have := HK1.out; omega⟩, ⟨by (with_reducible repeat (first | refine blk_drewN ?_ _  | refine blk_drew ?_  | refine blk_alloc ?_ _)); refine blk_far ?_ NB148_150.out _; (with_reducible repeat (first | refine blk_drewN ?_ _  | refine blk_drew ?_  | refine blk_alloc ?_ _)); refine blk_far ?_ NB148_150.out _; (with_reducible repeat (first | refine blk_drewN ?_ _  | refine blk_drew ?_  | refine blk_alloc ?_ _)); refine blk_far ?_ NB148_150.out _; (with_reducible repeat (first | refine blk_drewN ?_ _  | refine blk_drew ?_  | refine blk_alloc ?_ _)); refine blk_far ?_ NB148_150.out _; (with_reducible repeat (first | refine blk_drewN ?_ _  | refine blk_drew ?_  | refine blk_alloc ?_ _)); refine blk_far ?_ NB148_150.out _; (with_reducible repeat (first | refine blk_drewN ?_ _  | refine blk_drew ?_  | refine blk_alloc ?_ _)); refine blk_far ?_ NB148_150.out _; (with_reducible repeat (first | refine blk_drewN ?_ _  | refine blk_drew ?_  | refine blk_alloc ?_ _)); exact BK148.out⟩, ⟨by (repeat (with_reducible first | exact HB.out | refine below_set ?_ GE150.out))⟩⟩
       · rw [if_neg c6] at H
         exact absurd H (by simp)
     · rw [if_neg c5] at H
       exact absurd H (by simp)
   · rw [if_neg c4] at H
     have c4b0 : decide (x10_1 < (l0.length : Int)) = false := decide_eq_false c4
     clear c4
     simp only [Option.some.injEq, Prod.mk.injEq] at H
     obtain ⟨rfl, rfl, rfl, rfl, rfl, rfl, rfl⟩ := H
     obtain ⟨hcz18_0, hcz18_1, hcz18_2, hcz18_3, hcz18_4, hcz18_5, hfz18_0, hfz18_1, hfz18_2, hfz18_3, hfz18_4, hfz18_5⟩ := cz6_ BK148.out
     go_wp2
     refine bodyPost_ret (results_ct rfl _ _ gb148 40 #[.string (⟨#[]⟩ : ByteArray), .string (⟨#[]⟩ : ByteArray), .int .i64 0, .bool false, .string (⟨#[]⟩ : ByteArray), .slice none 0 0] (0, 0) _ rfl (put6_ BK148.out _ _ _ _ _ _) Tryz.underlying40 rfl (by kernel_rfl)) rfl ?_
     exact ⟨_, rfl, by (exact Kd.R_nil _ _ _ _ _), by (repeat (with_reducible first | exact HB.out | refine below_set ?_ GE148.out))⟩
mutual
def client_Parse.l0 : Nat → List (S40) → List ByteArray → Int → Int → Option ((List (S40)) × Int × Int)
 | 0, _, _, _, _ => none
 | k + 1, x5, x16, x17, x18 => if x18 < x17 then (if 0 ≤ x18 then (if x18 < (x16.length : Int) then (if (rdOf ByteArray.empty x16 x18).toList = ([] : List UInt8) then (client_Parse.j1 k x5 x18 (rdOf ByteArray.empty x16 x18) x16 x17 x18 true) else (if 0 < ((rdOf ByteArray.empty x16 x18).size : Int) then (client_Parse.j1 k x5 x18 (rdOf ByteArray.empty x16 x18) x16 x17 x18 ((bt (rdOf ByteArray.empty x16 x18) 0) == 35)) else (none))) else (none)) else (none)) else (some (x5, 0, 0))
def client_Parse.j1 : Nat → List (S40) → Int → ByteArray → List ByteArray → Int → Int → Bool → Option ((List (S40)) × Int × Int)
 | 0, _, _, _, _, _, _, _ => none
 | k + 1, x5, x6, x7, x16, x17, x18, x29 => if x29 = true then (client_Parse.l0 k x5 x16 x17 (wrap64 (x18 + 1))) else ((client_parseLine.f x7).bind fun bt163 => (if bt163.2.2.2.2.2.2 = true then ((client_Find.f k x5 bt163.1).bind fun bt173 => (if bt173.2.2.2.2.2.2 = true then (some (([] : List (S40)), 8, wrap64 (x6 + 1))) else (if (x5.length : Int) = 256 then (some (([] : List (S40)), 32, wrap64 (x6 + 1))) else (if x5.length < 1599289640401 then (client_Parse.l0 k (x5 ++ [(⟨bt163.1, bt163.2.1, bt163.2.2.1, bt163.2.2.2.1, bt163.2.2.2.2.1, bt163.2.2.2.2.2.1⟩ : S40)]) x16 x17 (wrap64 (x18 + 1))) else (none))))) else (some (([] : List (S40)), 110, wrap64 (x6 + 1)))))
end
def client_Parse.f (k : Nat) (a0 : ByteArray) : Option ((List (S40)) × Int × Int) := if (a0.size : Int) > 65536 then (some (([] : List (S40)), 1, 0)) else ((strings_Split.f a0 (⟨#[10]⟩ : ByteArray)).bind fun t159 => (client_Parse.l0 k ([] : List (S40)) t159 (t159.length : Int) 0))
set_option maxHeartbeats 8000000 in
set_option maxRecDepth 100000 in
theorem client_Parse.calls (k : Nat) (a0 : ByteArray) (r1 : List (S40)) (r2 : Int) (r3 : Int) (w : World) (h : client_Parse.f k a0 = some (r1, r2, r3)) :
 Calls Tryz.prog 22 #[.string a0] w fun e w' => ∃ v0_ : Value, e = .returned (.tuple #[v0_, .int .i64 r2, .int .i64 r3]) ∧ Kd.S k40 40 w' w.heap.size (fun _ => True) v0_ r1 ∧ Below w.heap.size w w' := by
 have hu40 := Tryz.underlying40
 have HB := Aside0.mk (Below.refl w.heap.size w)
 have H : (if (a0.size : Int) > 65536 then (some (([] : List (S40)), 1, 0)) else ((strings_Split.f a0 (⟨#[10]⟩ : ByteArray)).bind fun t159 => (client_Parse.l0 k ([] : List (S40)) t159 (t159.length : Int) 0))) = some (r1, r2, r3) := h
 clear h
 by_cases c2 : (a0.size : Int) > 65536
 · rw [if_pos c2] at H
   have c2b0 : decide (65536 < (a0.size : Int)) = true := decide_eq_true c2
   have c2b1 : decide (65536 < a0.size) = true := decide_eq_true (by omega)
   clear c2
   simp only [Option.some.injEq, Prod.mk.injEq] at H
   obtain ⟨rfl, rfl, rfl⟩ := H
   go_enter Tryz.func22, Tryz.ntmps22
   go_wp2
   go_ret3
   exact ⟨_, rfl, by (exact Kd.S_nil _ _ _ _ _), by (with_reducible exact HB.out)⟩
 · rw [if_neg c2] at H
   have c2b0 : decide (65536 < (a0.size : Int)) = false := decide_eq_false c2
   have c2b1 : decide (65536 < a0.size) = false := decide_eq_false (by omega)
   clear c2
   replace H := Option.bind_eq_some_iff.mp H
   obtain ⟨t159, A30, H⟩ := H
   replace H : (client_Parse.l0 k ([] : List (S40)) t159 (t159.length : Int) 0) = some (r1, r2, r3) := H
   have A3 := Aside0.mk A30
   clear A30
   have H' := Aside0.mk H
   clear H
   go_enter Tryz.func22, Tryz.ntmps22
   go_wp2_with (first | ((with_reducible refine gate_callee (f := 50) rfl ?_); refine goesL_ (some 16) rfl rfl Tryz.func50 (by kernel_rfl) rfl #[.string a0, .string (⟨#[10]⟩ : ByteArray)] rfl (by ((try simp only [List.map_toArray, List.map_cons, List.map_nil]); (rfl))) ?_; (with_reducible refine (strings_Split.calls a0 (⟨#[10]⟩ : ByteArray) t159 _ A3.out).mono ?_); rintro e w4 ⟨v160, rfl, ho0, hb⟩; refine ⟨_, rfl, ?_⟩; have HO161 := Aside0.mk (Kd.R_lower ho0 (below_size HB.out)); replace HB := Aside0.mk (below_step HB.out hb); clear hb ho0; obtain ⟨Ao5, co5, eo5⟩ := Kd.R_slice HO161.out; subst eo5))
   go_loopg [5, 18] k (fun kq v5 v18 w' => ∃ (x5_1 : List (S40)) (x18_1 : Int), v18 = .int .i64 x18_1 ∧ Aside0 (client_Parse.l0 kq x5_1 t159 (t159.length : Int) x18_1 = some (r1, r2, r3)) ∧ Aside0 (kq ≤ k) ∧ Aside0 (Kd.S k40 40 w' w.heap.size (fun k_ => some k_ ≠ ((.slice Ao5 t159.length co5) : Value).ownBlock) v5 x5_1) ∧ Aside0 (Kd.R Kd.string 9 w' w.heap.size (fun _ => True) (.slice Ao5 t159.length co5) t159) ∧ Aside0 (Below w.heap.size w w'))
   case atStart => exact ⟨(([] : List (S40))), (0), rfl, H', ⟨Nat.le_refl _⟩, ⟨by (exact Kd.S_nil _ _ _ _ _)⟩, ⟨HO161.out⟩, ⟨HB.out⟩⟩
   case round =>
    clear H' c2b0 c2b1
    obtain ⟨x5_1, x18_1, rfl, HA, HK1, HO_5, HO_16, HB⟩ := hrel
    cases gk with
    | zero => exact absurd HA.out (by simp [client_Parse.l0])
    | succ k1 =>
     have H := HA.out
     clear HA
     simp only [client_Parse.l0] at H
     by_cases c6 : x18_1 < (t159.length : Int)
     · rw [if_pos c6] at H
       have c6b0 : decide (x18_1 < (t159.length : Int)) = true := decide_eq_true c6
       clear c6
       by_cases c7 : 0 ≤ x18_1
       · rw [if_pos c7] at H
         have c7b0 : decide (0 ≤ x18_1) = true := decide_eq_true c7
         clear c7
         by_cases c8 : x18_1 < (t159.length : Int)
         · rw [if_pos c8] at H
           have c8b0 : decide (x18_1 < (t159.length : Int)) = true := decide_eq_true c8
           clear c8
           have HC9 := Aside0.mk H
           clear H
           have p162 : 0 ≤ (x18_1 : Int) := of_decide_eq_true (by assumption)
           have q162 : x18_1 < (t159.length : Int) := of_decide_eq_true (by assumption)
           obtain ⟨ad162, e162, hx162_0⟩ := Kd.at_string (Kd.R_reads' HO_16.out).2.2 x18_1 p162 q162
           cases e162
           replace p162 := eq_true p162
           replace q162 := eq_true q162
           go_upto_region 7 with (fail)
           go_cut [29] (fun v29 wc => ∃ (kq : Nat) (x29_8 : Bool), v29 = .bool x29_8 ∧ Aside0 (client_Parse.j1 kq x5_1 x18_1 (rdOf ByteArray.empty t159 x18_1) t159 (t159.length : Int) x18_1 x29_8 = some (r1, r2, r3)) ∧ Aside0 (kq ≤ k1) ∧ Aside0 (Kd.S k40 40 wc w.heap.size (fun k_ => some k_ ≠ ((.slice (some ad162) t159.length co5) : Value).ownBlock) u5 x5_1) ∧ Aside0 (Kd.R Kd.string 9 wc w.heap.size (fun _ => True) (.slice (some ad162) t159.length co5) t159) ∧ Aside0 (Below w.heap.size w wc))
           case first =>
            have H := HC9.out
            clear HC9
            by_cases c10 : (rdOf ByteArray.empty t159 x18_1).toList = ([] : List UInt8)
            · rw [if_pos c10] at H
              have c10b0 : ((rdOf ByteArray.empty t159 x18_1).toList == ([] : List UInt8)) = true := beq_iff_eq.mpr c10
              have c10b1 : ((rdOf ByteArray.empty t159 x18_1).toList != ([] : List UInt8)) = false := bne_eq_false_iff_eq.mpr c10
              clear c10
              have H' := Aside0.mk H
              clear H
              go_wp2
              go_meet
              case rel => exact ⟨_, (true), rfl, H', ⟨by have := HK1.out; (omega)⟩, ⟨HO_5.out⟩, ⟨HO_16.out⟩, ⟨HB.out⟩⟩
            · rw [if_neg c10] at H
              have c10b0 : ((rdOf ByteArray.empty t159 x18_1).toList == ([] : List UInt8)) = false := beq_eq_false_iff_ne.mpr c10
              have c10b1 : ((rdOf ByteArray.empty t159 x18_1).toList != ([] : List UInt8)) = true := bne_iff_ne.mpr c10
              by_cases c11 : 0 < ((rdOf ByteArray.empty t159 x18_1).size : Int)
              · rw [if_pos c11] at H
                have c11b0 : decide (0 < ((rdOf ByteArray.empty t159 x18_1).size : Int)) = true := decide_eq_true c11
                have c11b1 : decide (0 < (rdOf ByteArray.empty t159 x18_1).size) = true := decide_eq_true (by omega)
                clear c11
                have H' := Aside0.mk H
                clear H
                have p12 : 0 ≤ (0 : Int) := (by omega)
                have q12 : 0 < (rdOf ByteArray.empty t159 x18_1).size := (by have : (0 : Int) < ((rdOf ByteArray.empty t159 x18_1).size : Int) := of_decide_eq_true (by assumption); omega)
                have hx12 : ∀ h : 0 < (rdOf ByteArray.empty t159 x18_1).size, (((rdOf ByteArray.empty t159 x18_1)[0]'h).toNat : Int) = bt (rdOf ByteArray.empty t159 x18_1) 0 := bt_at (rdOf ByteArray.empty t159 x18_1) 0
                clear p12
                have qi12 : (0 < ((rdOf ByteArray.empty t159 x18_1).size : Int)) = True := eq_true (of_decide_eq_true (by assumption))
                replace q12 := eq_true q12
                go_wp2
                go_meet
                case rel => exact ⟨_, (((bt (rdOf ByteArray.empty t159 x18_1) 0) == 35)), rfl, H', ⟨by have := HK1.out; (omega)⟩, ⟨HO_5.out⟩, ⟨HO_16.out⟩, ⟨HB.out⟩⟩
              · rw [if_neg c11] at H
                exact absurd H (by simp)
           case rest =>
            clear HC9 c6b0 c7b0 c8b0 hx162_0 p162 q162
            obtain ⟨kq, x29_8, rfl, HA, HJ8, HO_5, HO_16, HB⟩ := hcut
            cases kq with
            | zero => exact absurd HA.out (by simp [client_Parse.j1])
            | succ kj8 =>
             have H := HA.out
             clear HA
             simp only [client_Parse.j1] at H
             by_cases c13 : x29_8 = true
             · subst c13
               have H1 : (client_Parse.l0 kj8 x5_1 t159 (t159.length : Int) (wrap64 (x18_1 + 1))) = some (r1, r2, r3) := by rw [if_pos rfl] at H; exact H
               clear H
               have H := H1
               clear H1
               have H' := Aside0.mk H
               clear H
               go_wp2
               go_roundg kj8
               case measure => have := HK1.out; have := HJ8.out; omega
               case rel => exact ⟨(x5_1), (wrap64 (x18_1 + 1)), rfl, H', ⟨by have := HK1.out; have := HJ8.out; omega⟩, ⟨HO_5.out⟩, ⟨HO_16.out⟩, ⟨HB.out⟩⟩
             · replace c13 := Bool.eq_false_iff.mpr c13
               subst c13
               have H1 : ((client_parseLine.f (rdOf ByteArray.empty t159 x18_1)).bind fun bt163 => (if bt163.2.2.2.2.2.2 = true then ((client_Find.f kj8 x5_1 bt163.1).bind fun bt173 => (if bt173.2.2.2.2.2.2 = true then (some (([] : List (S40)), 8, wrap64 (x18_1 + 1))) else (if (x5_1.length : Int) = 256 then (some (([] : List (S40)), 32, wrap64 (x18_1 + 1))) else (if x5_1.length < 1599289640401 then (client_Parse.l0 kj8 (x5_1 ++ [(⟨bt163.1, bt163.2.1, bt163.2.2.1, bt163.2.2.2.1, bt163.2.2.2.2.1, bt163.2.2.2.2.2.1⟩ : S40)]) t159 (t159.length : Int) (wrap64 (x18_1 + 1))) else (none))))) else (some (([] : List (S40)), 110, wrap64 (x18_1 + 1))))) = some (r1, r2, r3) := by rw [if_neg (show ¬ (false = true) by decide)] at H; exact H
               clear H
               have H := H1
               clear H1
               replace H := Option.bind_eq_some_iff.mp H
               obtain ⟨⟨t163, t164, t165, t166, t167, t168, t171⟩, A140, H⟩ := H
               replace H : (if t171 = true then ((client_Find.f kj8 x5_1 t163).bind fun bt173 => (if bt173.2.2.2.2.2.2 = true then (some (([] : List (S40)), 8, wrap64 (x18_1 + 1))) else (if (x5_1.length : Int) = 256 then (some (([] : List (S40)), 32, wrap64 (x18_1 + 1))) else (if x5_1.length < 1599289640401 then (client_Parse.l0 kj8 (x5_1 ++ [(⟨t163, t164, t165, t166, t167, t168⟩ : S40)]) t159 (t159.length : Int) (wrap64 (x18_1 + 1))) else (none))))) else (some (([] : List (S40)), 110, wrap64 (x18_1 + 1)))) = some (r1, r2, r3) := H
               have A14 := Aside0.mk A140
               clear A140
               by_cases c15 : t171 = true
               · subst c15
                 have H1 : ((client_Find.f kj8 x5_1 t163).bind fun bt173 => (if bt173.2.2.2.2.2.2 = true then (some (([] : List (S40)), 8, wrap64 (x18_1 + 1))) else (if (x5_1.length : Int) = 256 then (some (([] : List (S40)), 32, wrap64 (x18_1 + 1))) else (if x5_1.length < 1599289640401 then (client_Parse.l0 kj8 (x5_1 ++ [(⟨t163, t164, t165, t166, t167, t168⟩ : S40)]) t159 (t159.length : Int) (wrap64 (x18_1 + 1))) else (none))))) = some (r1, r2, r3) := by rw [if_pos rfl] at H; exact H
                 clear H
                 have H := H1
                 clear H1
                 replace H := Option.bind_eq_some_iff.mp H
                 obtain ⟨⟨t173, t174, t175, t176, t177, t178, t181⟩, A160, H⟩ := H
                 replace H : (if t181 = true then (some (([] : List (S40)), 8, wrap64 (x18_1 + 1))) else (if (x5_1.length : Int) = 256 then (some (([] : List (S40)), 32, wrap64 (x18_1 + 1))) else (if x5_1.length < 1599289640401 then (client_Parse.l0 kj8 (x5_1 ++ [(⟨t163, t164, t165, t166, t167, t168⟩ : S40)]) t159 (t159.length : Int) (wrap64 (x18_1 + 1))) else (none)))) = some (r1, r2, r3) := H
                 have A16 := Aside0.mk A160
                 clear A160
                 by_cases c17 : t181 = true
                 · subst c17
                   have H1 : (some (([] : List (S40)), 8, wrap64 (x18_1 + 1))) = some (r1, r2, r3) := by rw [if_pos rfl] at H; exact H
                   clear H
                   have H := H1
                   clear H1
                   simp only [Option.some.injEq, Prod.mk.injEq] at H
                   obtain ⟨rfl, rfl, rfl⟩ := H
                   go_wp2_with (first | ((with_reducible refine gate_callee (f := 51) rfl ?_); refine goesL_ (some 32) rfl rfl Tryz.func51 (by kernel_rfl) rfl #[.string (rdOf ByteArray.empty t159 x18_1)] rfl (by ((try simp only [List.map_toArray, List.map_cons, List.map_nil]); (rfl))) ?_; (with_reducible refine (client_parseLine.calls (rdOf ByteArray.empty t159 x18_1) t163 t164 t165 t166 t167 t168 true _ A14.out).mono ?_); rintro e w18 ⟨v169, rfl, ho0, hb⟩; refine ⟨_, rfl, ?_⟩; replace HO_5 := Aside0.mk (Kd.S_elder' HO_5.out (Kd.R_base ho0) hb); have HO170 := Aside0.mk (Kd.R_lower (Kd.R_new' ho0 (Kd.R_lt HO_16.out)) (below_size HB.out)); replace HO_16 := Aside0.mk (Kd.R_elder' HO_16.out (Kd.R_base ho0) hb); replace HB := Aside0.mk (below_step HB.out hb); clear hb ho0) | ((with_reducible refine gate_dst (N := 8) rfl ?_); refine box_event ?hg (N := 8) ?hd (cs := #[.string (⟨#[]⟩ : ByteArray), .string (⟨#[]⟩ : ByteArray), .int .i64 0, .bool false, .string (⟨#[]⟩ : ByteArray), .slice none 0 0]) (t := 40) ?hr ?_; (case hd => rfl); (case hg => rfl); (case hr => (go_simp; done)); intro gb172 hg w19 hbox hb; replace HO_5 := Aside0.mk (Kd.S_below (Kd.S_elderB HO_5.out gb172 (Nat.le_of_eq hg.symm)) hb); replace HO_16 := Aside0.mk (Kd.R_below HO_16.out hb); replace HO170 := Aside0.mk (Kd.R_below HO170.out hb); have BK172 := Aside0.mk hbox; have GW172 := Aside0.mk ((by rw [hg]; exact (below_size HB.out) : w.heap.size ≤ gb172)); have GE172 := Aside0.mk ((by rw [hg]; exact (below_size HB.out) : w.heap.size ≤ gb172)); replace HB := Aside0.mk (below_step HB.out hb); clear hb hbox hg; obtain ⟨hcz20_0, hcz20_1, hcz20_2, hcz20_3, hcz20_4, hcz20_5, hfz20_0, hfz20_1, hfz20_2, hfz20_3, hfz20_4, hfz20_5⟩ := cz6_ BK172.out; obtain ⟨Ao21, co21, eo21⟩ := Kd.R_slice HO170.out; subst eo21; obtain ⟨Ao22, co22, eo22⟩ := Kd.S_slice HO_5.out; subst eo22) | ((with_reducible refine gate_callee (f := 29) rfl ?_); refine goesL_ (some 43) rfl rfl Tryz.func29 (by kernel_rfl) rfl #[.slice Ao22 x5_1.length co22, .string t163] rfl (by ((try simp only [List.map_toArray, List.map_cons, List.map_nil]); (rfl))) ?_; (with_reducible refine (client_Find.calls kj8 _ _ x5_1 t163 t173 t174 t175 t176 t177 t178 true _ ?side1 ?side2 A16.out).mono ?_); (case side1 => refine (Kd.S_reads' (e := 40) (base := w.heap.size) (ok := fun k_ => ((some k_ ≠ (.slice (some ad162) t159.length co5 : Value).ownBlock ∧ some k_ ≠ (.slice Ao21 t168.length co21 : Value).ownBlock) ∧ k_ ≠ gb172)) (n := x5_1.length) (c := co22) ?_).2.2; exact (Kd.S_mono (S_far6 (Kd.S_mono HO_5.out (fun k_ hk => (⟨hk, hk.2⟩ : _ ∧ k_ ≠ gb172))) (fun _ hk => hk.2)) (fun _ h_ => h_.1))); (case side2 => exact (Kd.S_reads' HO_5.out).2.1); rintro e w23 ⟨v179, rfl, ho0, hb⟩; refine ⟨_, rfl, ?_⟩; replace HO_5 := Aside0.mk (Kd.S_elder' (Kd.S_mono (S_far6 (Kd.S_mono HO_5.out (fun k_ hk => (⟨hk, hk.2⟩ : _ ∧ k_ ≠ gb172))) (fun _ hk => hk.2)) (fun _ h_ => h_.1)) (Kd.R_base ho0) hb); have HO180 := Aside0.mk (Kd.R_lower (Kd.R_new' (Kd.R_new' ho0 (Kd.R_lt (Kd.R_mono (R_far6 (Kd.R_types HO_16.out BK172.out (by decide)) (fun _ hk => hk.2)) (fun _ h_ => h_.1)))) (Kd.R_lt (Kd.R_mono (R_far6 (Kd.R_types HO170.out BK172.out (by decide)) (fun _ hk => hk.2)) (fun _ h_ => h_.1)))) (below_size (by (repeat (with_reducible first | exact HB.out | refine below_set ?_ GE172.out))))); replace HO_16 := Aside0.mk (Kd.R_elder' (Kd.R_mono (R_far6 (Kd.R_types HO_16.out BK172.out (by decide)) (fun _ hk => hk.2)) (fun _ h_ => h_.1)) (Kd.R_base ho0) hb); replace HO170 := Aside0.mk (Kd.R_elder' (Kd.R_mono (R_far6 (Kd.R_types HO170.out BK172.out (by decide)) (fun _ hk => hk.2)) (fun _ h_ => h_.1)) (Kd.R_base ho0) hb); replace BK172 := Aside0.mk (blk_below (g := gb172) (o := .cells #[.string t163, .string t164, .int .i64 t165, .bool t166, .string t167, .slice Ao21 t168.length co21] 40 (0, 0)) (put6_ BK172.out _ _ _ _ _ _) hb); replace HB := Aside0.mk (below_step (by (repeat (with_reducible first | exact HB.out | refine below_set ?_ GE172.out))) hb); clear hb ho0) | ((with_reducible refine gate_dst (N := 10) rfl ?_); refine box_event ?hg (N := 10) ?hd (cs := #[.string (⟨#[]⟩ : ByteArray), .string (⟨#[]⟩ : ByteArray), .int .i64 0, .bool false, .string (⟨#[]⟩ : ByteArray), .slice none 0 0]) (t := 40) ?hr ?_; (case hd => rfl); (case hg => rfl); (case hr => (go_simp; done)); intro gb182 hg w24 hbox hb; replace HO_5 := Aside0.mk (Kd.S_below (Kd.S_elderB HO_5.out gb182 (Nat.le_of_eq hg.symm)) hb); replace HO_16 := Aside0.mk (Kd.R_below HO_16.out hb); replace HO170 := Aside0.mk (Kd.R_below HO170.out hb); replace HO180 := Aside0.mk (Kd.R_below HO180.out hb); have BK182 := Aside0.mk hbox; have GW182 := Aside0.mk ((by rw [hg]; exact (below_size HB.out) : w.heap.size ≤ gb182)); have GE182 := Aside0.mk ((by rw [hg]; exact (below_size HB.out) : w.heap.size ≤ gb182)); replace HB := Aside0.mk (below_step HB.out hb); have NB172_182 := Aside0.mk ((by rw [hg]; exact Nat.ne_of_lt (blk_lt (g := gb172) (o := .cells #[.string t163, .string t164, .int .i64 t165, .bool t166, .string t167, .slice Ao21 t168.length co21] 40 (0, 0)) BK172.out) : gb172 ≠ gb182)); have NB182_172 := Aside0.mk ((by rw [hg]; exact Nat.ne_of_gt (blk_lt (g := gb172) (o := .cells #[.string t163, .string t164, .int .i64 t165, .bool t166, .string t167, .slice Ao21 t168.length co21] 40 (0, 0)) BK172.out) : gb182 ≠ gb172)); replace BK172 := Aside0.mk (blk_below (g := gb172) (o := .cells #[.string t163, .string t164, .int .i64 t165, .bool t166, .string t167, .slice Ao21 t168.length co21] 40 (0, 0)) BK172.out hb); clear hb hbox hg; have hnb25 := NB182_172.out; have hnc25 := NB172_182.out; obtain ⟨hcz26_0, hcz26_1, hcz26_2, hcz26_3, hcz26_4, hcz26_5, hfz26_0, hfz26_1, hfz26_2, hfz26_3, hfz26_4, hfz26_5⟩ := cz6_ BK182.out; obtain ⟨Ao27, co27, eo27⟩ := Kd.R_slice HO180.out; subst eo27))
                   go_ret3
                   exact ⟨_, rfl, by (exact Kd.S_nil _ _ _ _ _), by (repeat (with_reducible first | exact HB.out | refine below_set ?_ GE182.out))⟩
                 · replace c17 := Bool.eq_false_iff.mpr c17
                   subst c17
                   have H1 : (if (x5_1.length : Int) = 256 then (some (([] : List (S40)), 32, wrap64 (x18_1 + 1))) else (if x5_1.length < 1599289640401 then (client_Parse.l0 kj8 (x5_1 ++ [(⟨t163, t164, t165, t166, t167, t168⟩ : S40)]) t159 (t159.length : Int) (wrap64 (x18_1 + 1))) else (none))) = some (r1, r2, r3) := by rw [if_neg (show ¬ (false = true) by decide)] at H; exact H
                   clear H
                   have H := H1
                   clear H1
                   by_cases c28 : (x5_1.length : Int) = 256
                   · rw [if_pos c28] at H
                     have c28b0 : ((x5_1.length : Int) == 256) = true := beq_iff_eq.mpr c28
                     have c28b1 : ((x5_1.length : Int) != 256) = false := bne_eq_false_iff_eq.mpr c28
                     clear c28
                     simp only [Option.some.injEq, Prod.mk.injEq] at H
                     obtain ⟨rfl, rfl, rfl⟩ := H
                     go_wp2_with (first | ((with_reducible refine gate_callee (f := 51) rfl ?_); refine goesL_ (some 32) rfl rfl Tryz.func51 (by kernel_rfl) rfl #[.string (rdOf ByteArray.empty t159 x18_1)] rfl (by ((try simp only [List.map_toArray, List.map_cons, List.map_nil]); (rfl))) ?_; (with_reducible refine (client_parseLine.calls (rdOf ByteArray.empty t159 x18_1) t163 t164 t165 t166 t167 t168 true _ A14.out).mono ?_); rintro e w29 ⟨v169, rfl, ho0, hb⟩; refine ⟨_, rfl, ?_⟩; replace HO_5 := Aside0.mk (Kd.S_elder' HO_5.out (Kd.R_base ho0) hb); have HO170 := Aside0.mk (Kd.R_lower (Kd.R_new' ho0 (Kd.R_lt HO_16.out)) (below_size HB.out)); replace HO_16 := Aside0.mk (Kd.R_elder' HO_16.out (Kd.R_base ho0) hb); replace HB := Aside0.mk (below_step HB.out hb); clear hb ho0) | ((with_reducible refine gate_dst (N := 8) rfl ?_); refine box_event ?hg (N := 8) ?hd (cs := #[.string (⟨#[]⟩ : ByteArray), .string (⟨#[]⟩ : ByteArray), .int .i64 0, .bool false, .string (⟨#[]⟩ : ByteArray), .slice none 0 0]) (t := 40) ?hr ?_; (case hd => rfl); (case hg => rfl); (case hr => (go_simp; done)); intro gb172 hg w30 hbox hb; replace HO_5 := Aside0.mk (Kd.S_below (Kd.S_elderB HO_5.out gb172 (Nat.le_of_eq hg.symm)) hb); replace HO_16 := Aside0.mk (Kd.R_below HO_16.out hb); replace HO170 := Aside0.mk (Kd.R_below HO170.out hb); have BK172 := Aside0.mk hbox; have GW172 := Aside0.mk ((by rw [hg]; exact (below_size HB.out) : w.heap.size ≤ gb172)); have GE172 := Aside0.mk ((by rw [hg]; exact (below_size HB.out) : w.heap.size ≤ gb172)); replace HB := Aside0.mk (below_step HB.out hb); clear hb hbox hg; obtain ⟨hcz31_0, hcz31_1, hcz31_2, hcz31_3, hcz31_4, hcz31_5, hfz31_0, hfz31_1, hfz31_2, hfz31_3, hfz31_4, hfz31_5⟩ := cz6_ BK172.out; obtain ⟨Ao32, co32, eo32⟩ := Kd.R_slice HO170.out; subst eo32; obtain ⟨Ao33, co33, eo33⟩ := Kd.S_slice HO_5.out; subst eo33) | ((with_reducible refine gate_callee (f := 29) rfl ?_); refine goesL_ (some 43) rfl rfl Tryz.func29 (by kernel_rfl) rfl #[.slice Ao33 x5_1.length co33, .string t163] rfl (by ((try simp only [List.map_toArray, List.map_cons, List.map_nil]); (rfl))) ?_; (with_reducible refine (client_Find.calls kj8 _ _ x5_1 t163 t173 t174 t175 t176 t177 t178 false _ ?side1 ?side2 A16.out).mono ?_); (case side1 => refine (Kd.S_reads' (e := 40) (base := w.heap.size) (ok := fun k_ => ((some k_ ≠ (.slice (some ad162) t159.length co5 : Value).ownBlock ∧ some k_ ≠ (.slice Ao32 t168.length co32 : Value).ownBlock) ∧ k_ ≠ gb172)) (n := x5_1.length) (c := co33) ?_).2.2; exact (Kd.S_mono (S_far6 (Kd.S_mono HO_5.out (fun k_ hk => (⟨hk, hk.2⟩ : _ ∧ k_ ≠ gb172))) (fun _ hk => hk.2)) (fun _ h_ => h_.1))); (case side2 => exact (Kd.S_reads' HO_5.out).2.1); rintro e w34 ⟨v179, rfl, ho0, hb⟩; refine ⟨_, rfl, ?_⟩; replace HO_5 := Aside0.mk (Kd.S_elder' (Kd.S_mono (S_far6 (Kd.S_mono HO_5.out (fun k_ hk => (⟨hk, hk.2⟩ : _ ∧ k_ ≠ gb172))) (fun _ hk => hk.2)) (fun _ h_ => h_.1)) (Kd.R_base ho0) hb); have HO180 := Aside0.mk (Kd.R_lower (Kd.R_new' (Kd.R_new' ho0 (Kd.R_lt (Kd.R_mono (R_far6 (Kd.R_types HO_16.out BK172.out (by decide)) (fun _ hk => hk.2)) (fun _ h_ => h_.1)))) (Kd.R_lt (Kd.R_mono (R_far6 (Kd.R_types HO170.out BK172.out (by decide)) (fun _ hk => hk.2)) (fun _ h_ => h_.1)))) (below_size (by (repeat (with_reducible first | exact HB.out | refine below_set ?_ GE172.out))))); replace HO_16 := Aside0.mk (Kd.R_elder' (Kd.R_mono (R_far6 (Kd.R_types HO_16.out BK172.out (by decide)) (fun _ hk => hk.2)) (fun _ h_ => h_.1)) (Kd.R_base ho0) hb); replace HO170 := Aside0.mk (Kd.R_elder' (Kd.R_mono (R_far6 (Kd.R_types HO170.out BK172.out (by decide)) (fun _ hk => hk.2)) (fun _ h_ => h_.1)) (Kd.R_base ho0) hb); replace BK172 := Aside0.mk (blk_below (g := gb172) (o := .cells #[.string t163, .string t164, .int .i64 t165, .bool t166, .string t167, .slice Ao32 t168.length co32] 40 (0, 0)) (put6_ BK172.out _ _ _ _ _ _) hb); replace HB := Aside0.mk (below_step (by (repeat (with_reducible first | exact HB.out | refine below_set ?_ GE172.out))) hb); clear hb ho0) | ((with_reducible refine gate_dst (N := 10) rfl ?_); refine box_event ?hg (N := 10) ?hd (cs := #[.string (⟨#[]⟩ : ByteArray), .string (⟨#[]⟩ : ByteArray), .int .i64 0, .bool false, .string (⟨#[]⟩ : ByteArray), .slice none 0 0]) (t := 40) ?hr ?_; (case hd => rfl); (case hg => rfl); (case hr => (go_simp; done)); intro gb182 hg w35 hbox hb; replace HO_5 := Aside0.mk (Kd.S_below (Kd.S_elderB HO_5.out gb182 (Nat.le_of_eq hg.symm)) hb); replace HO_16 := Aside0.mk (Kd.R_below HO_16.out hb); replace HO170 := Aside0.mk (Kd.R_below HO170.out hb); replace HO180 := Aside0.mk (Kd.R_below HO180.out hb); have BK182 := Aside0.mk hbox; have GW182 := Aside0.mk ((by rw [hg]; exact (below_size HB.out) : w.heap.size ≤ gb182)); have GE182 := Aside0.mk ((by rw [hg]; exact (below_size HB.out) : w.heap.size ≤ gb182)); replace HB := Aside0.mk (below_step HB.out hb); have NB172_182 := Aside0.mk ((by rw [hg]; exact Nat.ne_of_lt (blk_lt (g := gb172) (o := .cells #[.string t163, .string t164, .int .i64 t165, .bool t166, .string t167, .slice Ao32 t168.length co32] 40 (0, 0)) BK172.out) : gb172 ≠ gb182)); have NB182_172 := Aside0.mk ((by rw [hg]; exact Nat.ne_of_gt (blk_lt (g := gb172) (o := .cells #[.string t163, .string t164, .int .i64 t165, .bool t166, .string t167, .slice Ao32 t168.length co32] 40 (0, 0)) BK172.out) : gb182 ≠ gb172)); replace BK172 := Aside0.mk (blk_below (g := gb172) (o := .cells #[.string t163, .string t164, .int .i64 t165, .bool t166, .string t167, .slice Ao32 t168.length co32] 40 (0, 0)) BK172.out hb); clear hb hbox hg; have hnb36 := NB182_172.out; have hnc36 := NB172_182.out; obtain ⟨hcz37_0, hcz37_1, hcz37_2, hcz37_3, hcz37_4, hcz37_5, hfz37_0, hfz37_1, hfz37_2, hfz37_3, hfz37_4, hfz37_5⟩ := cz6_ BK182.out; obtain ⟨Ao38, co38, eo38⟩ := Kd.R_slice HO180.out; subst eo38))
                     go_ret3
                     exact ⟨_, rfl, by (exact Kd.S_nil _ _ _ _ _), by (repeat (with_reducible first | exact HB.out | refine below_set ?_ GE182.out))⟩
                   · rw [if_neg c28] at H
                     have c28b0 : ((x5_1.length : Int) == 256) = false := beq_eq_false_iff_ne.mpr c28
                     have c28b1 : ((x5_1.length : Int) != 256) = true := bne_iff_ne.mpr c28
                     by_cases c39 : x5_1.length < 1599289640401
                     · rw [if_pos c39] at H
                       have LMc39 := Aside0.mk c39
                       clear c39
                       obtain ⟨y183, hy183⟩ : ∃ y_ : List (S40), y_ = (x5_1 ++ [(⟨t163, t164, t165, t166, t167, t168⟩ : S40)]) := ⟨_, rfl⟩
                       replace H : (client_Parse.l0 kj8 y183 t159 (t159.length : Int) (wrap64 (x18_1 + 1))) = some (r1, r2, r3) := by (rw [hy183]; with_reducible exact H)
                       have Ny183 := Aside0.mk hy183
                       clear hy183
                       have H' := Aside0.mk H
                       clear H
                       go_wp2_with (first | ((with_reducible refine gate_callee (f := 51) rfl ?_); refine goesL_ (some 32) rfl rfl Tryz.func51 (by kernel_rfl) rfl #[.string (rdOf ByteArray.empty t159 x18_1)] rfl (by ((try simp only [List.map_toArray, List.map_cons, List.map_nil]); (rfl))) ?_; (with_reducible refine (client_parseLine.calls (rdOf ByteArray.empty t159 x18_1) t163 t164 t165 t166 t167 t168 true _ A14.out).mono ?_); rintro e w40 ⟨v169, rfl, ho0, hb⟩; refine ⟨_, rfl, ?_⟩; replace HO_5 := Aside0.mk (Kd.S_elder' HO_5.out (Kd.R_base ho0) hb); have HO170 := Aside0.mk (Kd.R_lower (Kd.R_new' ho0 (Kd.R_lt HO_16.out)) (below_size HB.out)); replace HO_16 := Aside0.mk (Kd.R_elder' HO_16.out (Kd.R_base ho0) hb); replace HB := Aside0.mk (below_step HB.out hb); clear hb ho0) | ((with_reducible refine gate_dst (N := 8) rfl ?_); refine box_event ?hg (N := 8) ?hd (cs := #[.string (⟨#[]⟩ : ByteArray), .string (⟨#[]⟩ : ByteArray), .int .i64 0, .bool false, .string (⟨#[]⟩ : ByteArray), .slice none 0 0]) (t := 40) ?hr ?_; (case hd => rfl); (case hg => rfl); (case hr => (go_simp; done)); intro gb172 hg w41 hbox hb; replace HO_5 := Aside0.mk (Kd.S_below (Kd.S_elderB HO_5.out gb172 (Nat.le_of_eq hg.symm)) hb); replace HO_16 := Aside0.mk (Kd.R_below HO_16.out hb); replace HO170 := Aside0.mk (Kd.R_below HO170.out hb); have BK172 := Aside0.mk hbox; have GW172 := Aside0.mk ((by rw [hg]; exact (below_size HB.out) : w.heap.size ≤ gb172)); have GE172 := Aside0.mk ((by rw [hg]; exact (below_size HB.out) : w.heap.size ≤ gb172)); replace HB := Aside0.mk (below_step HB.out hb); clear hb hbox hg; obtain ⟨hcz42_0, hcz42_1, hcz42_2, hcz42_3, hcz42_4, hcz42_5, hfz42_0, hfz42_1, hfz42_2, hfz42_3, hfz42_4, hfz42_5⟩ := cz6_ BK172.out; obtain ⟨Ao43, co43, eo43⟩ := Kd.R_slice HO170.out; subst eo43; obtain ⟨Ao44, co44, eo44⟩ := Kd.S_slice HO_5.out; subst eo44) | ((with_reducible refine gate_callee (f := 29) rfl ?_); refine goesL_ (some 43) rfl rfl Tryz.func29 (by kernel_rfl) rfl #[.slice Ao44 x5_1.length co44, .string t163] rfl (by ((try simp only [List.map_toArray, List.map_cons, List.map_nil]); (rfl))) ?_; (with_reducible refine (client_Find.calls kj8 _ _ x5_1 t163 t173 t174 t175 t176 t177 t178 false _ ?side1 ?side2 A16.out).mono ?_); (case side1 => refine (Kd.S_reads' (e := 40) (base := w.heap.size) (ok := fun k_ => ((some k_ ≠ (.slice (some ad162) t159.length co5 : Value).ownBlock ∧ some k_ ≠ (.slice Ao43 t168.length co43 : Value).ownBlock) ∧ k_ ≠ gb172)) (n := x5_1.length) (c := co44) ?_).2.2; exact (Kd.S_mono (S_far6 (Kd.S_mono HO_5.out (fun k_ hk => (⟨hk, hk.2⟩ : _ ∧ k_ ≠ gb172))) (fun _ hk => hk.2)) (fun _ h_ => h_.1))); (case side2 => exact (Kd.S_reads' HO_5.out).2.1); rintro e w45 ⟨v179, rfl, ho0, hb⟩; refine ⟨_, rfl, ?_⟩; replace HO_5 := Aside0.mk (Kd.S_elder' (Kd.S_mono (S_far6 (Kd.S_mono HO_5.out (fun k_ hk => (⟨hk, hk.2⟩ : _ ∧ k_ ≠ gb172))) (fun _ hk => hk.2)) (fun _ h_ => h_.1)) (Kd.R_base ho0) hb); have HO180 := Aside0.mk (Kd.R_lower (Kd.R_new' (Kd.R_new' ho0 (Kd.R_lt (Kd.R_mono (R_far6 (Kd.R_types HO_16.out BK172.out (by decide)) (fun _ hk => hk.2)) (fun _ h_ => h_.1)))) (Kd.R_lt (Kd.R_mono (R_far6 (Kd.R_types HO170.out BK172.out (by decide)) (fun _ hk => hk.2)) (fun _ h_ => h_.1)))) (below_size (by (repeat (with_reducible first | exact HB.out | refine below_set ?_ GE172.out))))); replace HO_16 := Aside0.mk (Kd.R_elder' (Kd.R_mono (R_far6 (Kd.R_types HO_16.out BK172.out (by decide)) (fun _ hk => hk.2)) (fun _ h_ => h_.1)) (Kd.R_base ho0) hb); replace HO170 := Aside0.mk (Kd.R_elder' (Kd.R_mono (R_far6 (Kd.R_types HO170.out BK172.out (by decide)) (fun _ hk => hk.2)) (fun _ h_ => h_.1)) (Kd.R_base ho0) hb); replace BK172 := Aside0.mk (blk_below (g := gb172) (o := .cells #[.string t163, .string t164, .int .i64 t165, .bool t166, .string t167, .slice Ao43 t168.length co43] 40 (0, 0)) (put6_ BK172.out _ _ _ _ _ _) hb); replace HB := Aside0.mk (below_step (by (repeat (with_reducible first | exact HB.out | refine below_set ?_ GE172.out))) hb); clear hb ho0) | ((with_reducible refine gate_dst (N := 10) rfl ?_); refine box_event ?hg (N := 10) ?hd (cs := #[.string (⟨#[]⟩ : ByteArray), .string (⟨#[]⟩ : ByteArray), .int .i64 0, .bool false, .string (⟨#[]⟩ : ByteArray), .slice none 0 0]) (t := 40) ?hr ?_; (case hd => rfl); (case hg => rfl); (case hr => (go_simp; done)); intro gb182 hg w46 hbox hb; replace HO_5 := Aside0.mk (Kd.S_below (Kd.S_elderB HO_5.out gb182 (Nat.le_of_eq hg.symm)) hb); replace HO_16 := Aside0.mk (Kd.R_below HO_16.out hb); replace HO170 := Aside0.mk (Kd.R_below HO170.out hb); replace HO180 := Aside0.mk (Kd.R_below HO180.out hb); have BK182 := Aside0.mk hbox; have GW182 := Aside0.mk ((by rw [hg]; exact (below_size HB.out) : w.heap.size ≤ gb182)); have GE182 := Aside0.mk ((by rw [hg]; exact (below_size HB.out) : w.heap.size ≤ gb182)); replace HB := Aside0.mk (below_step HB.out hb); have NB172_182 := Aside0.mk ((by rw [hg]; exact Nat.ne_of_lt (blk_lt (g := gb172) (o := .cells #[.string t163, .string t164, .int .i64 t165, .bool t166, .string t167, .slice Ao43 t168.length co43] 40 (0, 0)) BK172.out) : gb172 ≠ gb182)); have NB182_172 := Aside0.mk ((by rw [hg]; exact Nat.ne_of_gt (blk_lt (g := gb172) (o := .cells #[.string t163, .string t164, .int .i64 t165, .bool t166, .string t167, .slice Ao43 t168.length co43] 40 (0, 0)) BK172.out) : gb182 ≠ gb172)); replace BK172 := Aside0.mk (blk_below (g := gb172) (o := .cells #[.string t163, .string t164, .int .i64 t165, .bool t166, .string t167, .slice Ao43 t168.length co43] 40 (0, 0)) BK172.out hb); clear hb hbox hg; have hnb47 := NB182_172.out; have hnc47 := NB172_182.out; obtain ⟨hcz48_0, hcz48_1, hcz48_2, hcz48_3, hcz48_4, hcz48_5, hfz48_0, hfz48_1, hfz48_2, hfz48_3, hfz48_4, hfz48_5⟩ := cz6_ BK182.out; obtain ⟨Ao49, co49, eo49⟩ := Kd.R_slice HO180.out; subst eo49) | ((with_reducible refine gate_store (t := 40) (p := 10) rfl ?_); refine store_event (t := 40) (p := 10) (v := ?vo_w50) (w1 := ((((((w46.setCell ⟨gb182, 0, none⟩ (.string t173)).setCell ⟨gb182, 1, none⟩ (.string t174)).setCell ⟨gb182, 2, none⟩ (.int .i64 t175)).setCell ⟨gb182, 3, none⟩ (.bool t176)).setCell ⟨gb182, 4, none⟩ (.string t177)).setCell ⟨gb182, 5, none⟩ (.slice Ao49 t178.length co49))) ?hg ?ho ?hn ?hr ?_; (case ho => rfl); (case hg => rfl); (case hn => rfl); (case hr => (go_simp; done)); intro w50 hw; have n0_ : Aside0 (Kd.S k40 40 w50 w.heap.size (fun k_ => some k_ ≠ (.slice (some ad162) t159.length co5 : Value).ownBlock ∧ some k_ ≠ (.slice Ao43 t168.length co43 : Value).ownBlock ∧ some k_ ≠ (.slice Ao49 t178.length co49 : Value).ownBlock ∧ k_ ≠ gb172 ∧ k_ ≠ gb182) (.slice Ao44 x5_1.length co44) x5_1) := ⟨(by rw [hw]; exact (by (with_reducible repeat (first | apply Kd.S_alloc  | apply Kd.S_drewN  | apply Kd.S_drew)); exact Kd.S_mono (S_far6 (Kd.S_mono HO_5.out (fun k_ hk => (⟨hk, hk.2⟩ : _ ∧ k_ ≠ gb182))) (fun _ hk => hk.2)) (fun _ hk => ⟨hk.1.1.1.1.1, ⟨hk.1.1.1.1.2, ⟨hk.1.1.2, ⟨hk.1.1.1.2, hk.1.2⟩⟩⟩⟩)))⟩; have n1_ : Aside0 (Kd.R Kd.string 9 w50 w.heap.size (fun k_ => some k_ ≠ (.slice Ao43 t168.length co43 : Value).ownBlock ∧ some k_ ≠ (.slice Ao49 t178.length co49 : Value).ownBlock) (.slice (some ad162) t159.length co5) t159) := ⟨(by rw [hw]; exact (by (with_reducible repeat (first | apply Kd.R_alloc  | apply Kd.R_drewN  | apply Kd.R_drew)); exact Kd.R_mono (R_far6 (Kd.R_types HO_16.out BK182.out (by decide)) (fun _ hk => hk.2)) (fun _ hk => ⟨hk.1.1.2, hk.1.2⟩)))⟩; have n2_ : Aside0 (Kd.R Kd.string 9 w50 w.heap.size (fun k_ => some k_ ≠ (.slice (some ad162) t159.length co5 : Value).ownBlock ∧ some k_ ≠ (.slice Ao49 t178.length co49 : Value).ownBlock) (.slice Ao43 t168.length co43) t168) := ⟨(by rw [hw]; exact (by (with_reducible repeat (first | apply Kd.R_alloc  | apply Kd.R_drewN  | apply Kd.R_drew)); exact Kd.R_mono (R_far6 (Kd.R_types HO170.out BK182.out (by decide)) (fun _ hk => hk.2)) (fun _ hk => ⟨hk.1.1.2, hk.1.2⟩)))⟩; have n3_ : Aside0 (Kd.R Kd.string 9 w50 w.heap.size (fun k_ => some k_ ≠ (.slice (some ad162) t159.length co5 : Value).ownBlock ∧ some k_ ≠ (.slice Ao43 t168.length co43 : Value).ownBlock) (.slice Ao49 t178.length co49) t178) := ⟨(by rw [hw]; exact (by (with_reducible repeat (first | apply Kd.R_alloc  | apply Kd.R_drewN  | apply Kd.R_drew)); exact Kd.R_mono (R_far6 (Kd.R_types HO180.out BK182.out (by decide)) (fun _ hk => hk.2)) (fun _ hk => ⟨hk.1.1.2, hk.1.2⟩)))⟩; have n4_ : Aside0 (w50.heap[gb172]? = some (.cells #[.string t163, .string t164, .int .i64 t165, .bool t166, .string t167, .slice Ao43 t168.length co43] 40 (0, 0))) := ⟨(by rw [hw]; exact (by (with_reducible repeat (first | refine blk_drewN ?_ _  | refine blk_drew ?_  | refine blk_alloc ?_ _)); refine blk_far ?_ NB172_182.out _; (with_reducible repeat (first | refine blk_drewN ?_ _  | refine blk_drew ?_  | refine blk_alloc ?_ _)); refine blk_far ?_ NB172_182.out _; (with_reducible repeat (first | refine blk_drewN ?_ _  | refine blk_drew ?_  | refine blk_alloc ?_ _)); refine blk_far ?_ NB172_182.out _; (with_reducible repeat (first | refine blk_drewN ?_ _  | refine blk_drew ?_  | refine blk_alloc ?_ _)); refine blk_far ?_ NB172_182.out _; (with_reducible repeat (first | refine blk_drewN ?_ _  | refine blk_drew ?_  | refine blk_alloc ?_ _)); refine blk_far ?_ NB172_182.out _; (with_reducible repeat (first | refine blk_drewN ?_ _  | refine blk_drew ?_  | refine blk_alloc ?_ _)); refine blk_far ?_ NB172_182.out _; (with_reducible repeat (first | refine blk_drewN ?_ _  | refine blk_drew ?_  | refine blk_alloc ?_ _)); exact BK172.out))⟩; have n5_ : Aside0 (w50.heap[gb182]? = some (.cells #[.string t173, .string t174, .int .i64 t175, .bool t176, .string t177, .slice Ao49 t178.length co49] 40 (0, 0))) := ⟨(by rw [hw]; exact (put6_ BK182.out _ _ _ _ _ _))⟩; have n6_ : Aside0 (Below w.heap.size w w50) := ⟨(by rw [hw]; exact (by (repeat (with_reducible first | exact HB.out | refine below_set ?_ GE182.out))))⟩; clear hw HO_5; clear HO_16 HO170; clear HO180 BK172; clear BK182 HB; have HO_5 := n0_; have HO_16 := n1_; have HO170 := n2_; have HO180 := n3_; have BK172 := n4_; have BK182 := n5_; have HB := n6_; clear n0_ n1_ n2_ n3_ n4_ n5_ n6_; obtain ⟨hcz51_0, hcz51_1, hcz51_2, hcz51_3, hcz51_4, hcz51_5, hfz51_0, hfz51_1, hfz51_2, hfz51_3, hfz51_4, hfz51_5⟩ := cz6_ BK172.out) | ((with_reducible refine gate_builtin (b := .append) (xs := #[.tmp 54, .tmp 56]) rfl ?_); at_builtin; refine Kd.S_append k40 (w0 := w) w.heap.size rfl (.tmp 54) (.tmp 56) 22 40 (.agg #[(.string ⟨#[]⟩), (.string ⟨#[]⟩), (.int .i64 0), (.bool false), (.string ⟨#[]⟩), (.slice none 0 0)]) 88 rfl Tryz.underlying22 info40 rfl (by decide) (by omega) (.slice Ao44 x5_1.length co44) x5_1 (⟨t163, t164, t165, t166, t167, t168⟩ : S40) [.string t163, .string t164, .int .i64 t165, .bool t166, .string t167, .slice Ao43 t168.length co43] (fun k_ => some k_ ≠ (.slice (some ad162) t159.length co5 : Value).ownBlock ∧ some k_ ≠ (.slice Ao49 t178.length co49 : Value).ownBlock ∧ k_ ≠ gb172 ∧ k_ ≠ gb182) (fun k_ => some k_ = (.slice Ao43 t168.length co43 : Value).ownBlock) rfl rfl ?aP (fun k_ hk_ => ((Kd.R_mono (ok' := fun k_ => ((fun k_ => some k_ ≠ (.slice (some ad162) t159.length co5 : Value).ownBlock ∧ some k_ ≠ (.slice Ao49 t178.length co49 : Value).ownBlock ∧ k_ ≠ gb172 ∧ k_ ≠ gb182)) k_ ∧ some k_ ≠ (.slice Ao44 x5_1.length co44 : Value).ownBlock) (Kd.R_types (Kd.R_types (Kd.R_apart' (HO170.out) (Kd.S_typed HO_5.out) (by decide)) BK172.out (by decide)) BK182.out (by decide)) (fun k_ hk => ⟨⟨hk.1.1.1.1, ⟨hk.1.1.1.2, ⟨hk.1.2, hk.2⟩⟩⟩, hk.1.1.2⟩))).1 k_ hk_.symm) ?aF ?aO ?aB ?aS ?aL ?_; (case aP => exact k40_mkM _ _ _ (⟨t163, t164, t165, t166, t167, t168⟩ : S40) (Kd.R_mono (Kd.R_tight rfl (Kd.R_mono (ok' := fun k_ => ((fun k_ => some k_ ≠ (.slice (some ad162) t159.length co5 : Value).ownBlock ∧ some k_ ≠ (.slice Ao49 t178.length co49 : Value).ownBlock ∧ k_ ≠ gb172 ∧ k_ ≠ gb182)) k_ ∧ some k_ ≠ (.slice Ao44 x5_1.length co44 : Value).ownBlock) (Kd.R_types (Kd.R_types (Kd.R_apart' (HO170.out) (Kd.S_typed HO_5.out) (by decide)) BK172.out (by decide)) BK182.out (by decide)) (fun k_ hk => ⟨⟨hk.1.1.1.1, ⟨hk.1.1.1.2, ⟨hk.1.2, hk.2⟩⟩⟩, hk.1.1.2⟩))) (fun _ h_ => h_))); (case aB => exact HB.out); (case aF => exact (fun k_ hk => ⟨Kd.fresh' (Kd.R_lt HO_16.out) k_ hk, Kd.fresh' (Kd.R_lt HO180.out) k_ hk, Kd.freshB (g := gb172) (o := .cells #[.string t163, .string t164, .int .i64 t165, .bool t166, .string t167, .slice Ao43 t168.length co43] 40 (0, 0)) BK172.out k_ hk, Kd.freshB (g := gb182) (o := .cells #[.string t173, .string t174, .int .i64 t175, .bool t176, .string t177, .slice Ao49 t178.length co49] 40 (0, 0)) BK182.out k_ hk⟩)); (case aO => exact (by (with_reducible repeat (first | apply Kd.S_alloc  | apply Kd.S_drewN  | apply Kd.S_drew)); exact Kd.S_mono HO_5.out (fun k_ hk => ⟨⟨hk.1, ⟨hk.2.2.1, ⟨hk.2.2.2.1, hk.2.2.2.2⟩⟩⟩, fun e_ => hk.2.1 e_⟩))); (case aS => exact (below_size HB.out)); (case aL => have := LMc39.out; omega); intro v184 w52 ho hb hg hat; rw [← Ny183.out] at ho; have n0_ := Aside0.mk (Kd.R_over' HO_16.out (Kd.S_typed HO_5.out) (by decide) hg); have n1_ := Aside0.mk (blk_grown (g := gb172) (o := .cells #[.string t163, .string t164, .int .i64 t165, .bool t166, .string t167, .slice Ao43 t168.length co43] 40 (0, 0)) BK172.out hg (Kd.S_away HO_5.out (fun _ hk => hk.2.2.2.1))); have n2_ := Aside0.mk (Kd.R_over' HO180.out (Kd.S_typed HO_5.out) (by decide) hg); have n3_ := Aside0.mk (blk_grown (g := gb182) (o := .cells #[.string t173, .string t174, .int .i64 t175, .bool t176, .string t177, .slice Ao49 t178.length co49] 40 (0, 0)) BK182.out hg (Kd.S_away HO_5.out (fun _ hk => hk.2.2.2.2))); have n4_ := Aside0.mk hb; have n5_ := Aside0.mk ho; clear HO_16 BK172; clear HO180 BK182; clear HB HO_5 HO170; have HO_16 := n0_; have BK172 := n1_; have HO180 := n2_; have BK182 := n3_; have HB := n4_; have HO185 := n5_; clear n0_ n1_ n2_ n3_ n4_ n5_; clear ho hb hg hat))
                       go_roundg kj8
                       case measure => have := HK1.out; have := HJ8.out; omega
                       case rel => exact ⟨(y183), (wrap64 (x18_1 + 1)), rfl, H', ⟨by have := HK1.out; have := HJ8.out; omega⟩, ⟨by (with_reducible repeat (first | apply Kd.S_alloc  | apply Kd.S_drewN  | apply Kd.S_drew)); exact Kd.S_mono HO185.out (fun _ hk => hk.1)⟩, ⟨by (with_reducible repeat (first | apply Kd.R_alloc  | apply Kd.R_drewN  | apply Kd.R_drew)); exact Kd.R_mono HO_16.out (fun _ hk => trivial)⟩, ⟨HB.out⟩⟩
                     · rw [if_neg c39] at H
                       exact absurd H (by simp)
               · replace c15 := Bool.eq_false_iff.mpr c15
                 subst c15
                 have H1 : (some (([] : List (S40)), 110, wrap64 (x18_1 + 1))) = some (r1, r2, r3) := by rw [if_neg (show ¬ (false = true) by decide)] at H; exact H
                 clear H
                 have H := H1
                 clear H1
                 simp only [Option.some.injEq, Prod.mk.injEq] at H
                 obtain ⟨rfl, rfl, rfl⟩ := H
                 go_wp2_with (first | ((with_reducible refine gate_callee (f := 51) rfl ?_); refine goesL_ (some 32) rfl rfl Tryz.func51 (by kernel_rfl) rfl #[.string (rdOf ByteArray.empty t159 x18_1)] rfl (by ((try simp only [List.map_toArray, List.map_cons, List.map_nil]); (rfl))) ?_; (with_reducible refine (client_parseLine.calls (rdOf ByteArray.empty t159 x18_1) t163 t164 t165 t166 t167 t168 false _ A14.out).mono ?_); rintro e w53 ⟨v169, rfl, ho0, hb⟩; refine ⟨_, rfl, ?_⟩; replace HO_5 := Aside0.mk (Kd.S_elder' HO_5.out (Kd.R_base ho0) hb); have HO170 := Aside0.mk (Kd.R_lower (Kd.R_new' ho0 (Kd.R_lt HO_16.out)) (below_size HB.out)); replace HO_16 := Aside0.mk (Kd.R_elder' HO_16.out (Kd.R_base ho0) hb); replace HB := Aside0.mk (below_step HB.out hb); clear hb ho0) | ((with_reducible refine gate_dst (N := 8) rfl ?_); refine box_event ?hg (N := 8) ?hd (cs := #[.string (⟨#[]⟩ : ByteArray), .string (⟨#[]⟩ : ByteArray), .int .i64 0, .bool false, .string (⟨#[]⟩ : ByteArray), .slice none 0 0]) (t := 40) ?hr ?_; (case hd => rfl); (case hg => rfl); (case hr => (go_simp; done)); intro gb172 hg w54 hbox hb; replace HO_5 := Aside0.mk (Kd.S_below (Kd.S_elderB HO_5.out gb172 (Nat.le_of_eq hg.symm)) hb); replace HO_16 := Aside0.mk (Kd.R_below HO_16.out hb); replace HO170 := Aside0.mk (Kd.R_below HO170.out hb); have BK172 := Aside0.mk hbox; have GW172 := Aside0.mk ((by rw [hg]; exact (below_size HB.out) : w.heap.size ≤ gb172)); have GE172 := Aside0.mk ((by rw [hg]; exact (below_size HB.out) : w.heap.size ≤ gb172)); replace HB := Aside0.mk (below_step HB.out hb); clear hb hbox hg; obtain ⟨hcz55_0, hcz55_1, hcz55_2, hcz55_3, hcz55_4, hcz55_5, hfz55_0, hfz55_1, hfz55_2, hfz55_3, hfz55_4, hfz55_5⟩ := cz6_ BK172.out; obtain ⟨Ao56, co56, eo56⟩ := Kd.R_slice HO170.out; subst eo56))
                 go_ret3
                 exact ⟨_, rfl, by (exact Kd.S_nil _ _ _ _ _), by (repeat (with_reducible first | exact HB.out | refine below_set ?_ GE172.out))⟩
         · rw [if_neg c8] at H
           exact absurd H (by simp)
       · rw [if_neg c7] at H
         exact absurd H (by simp)
     · rw [if_neg c6] at H
       have c6b0 : decide (x18_1 < (t159.length : Int)) = false := decide_eq_false c6
       clear c6
       simp only [Option.some.injEq, Prod.mk.injEq] at H
       obtain ⟨rfl, rfl, rfl⟩ := H
       go_wp2
       go_ret3
       exact ⟨_, rfl, by (with_reducible repeat (first | apply Kd.S_alloc  | apply Kd.S_drewN  | apply Kd.S_drew)); exact Kd.S_mono HO_5.out (fun _ hk => trivial), by (with_reducible exact HB.out)⟩
end Go.Proofs.YtmimipgmhgalaaaGreatDoor.PAll
end
section
namespace Go.Proofs.YtmimipgmhgalaaaGreatDoor.PAll
open Go.RowKit Go.Proofs.YtmimipgmhgalaaaGreatDoorW.PrintWords Go.Proofs.YtmimipgmhgalaaaGreatDoorW.PrintLast Go.Proofs.YtmimipgmhgalaaaGreatDoorW.PrintMore
attribute [local go_sem] max2_int min2_int max_two min_two max_three min_three max_four min_four
set_option linter.unusedVariables false
set_option linter.unusedSimpArgs false
def wicketlaw11_theirs.f (a0_0 : ByteArray) (a0_1 : ByteArray) (a0_2 : Int) (a0_3 : Bool) (a0_4 : ByteArray) (l0_5 : List ByteArray) : Option (ByteArray × ByteArray × Int × Bool × ByteArray × List ByteArray) := (some (([] : List ByteArray) : List ByteArray)).bind fun y263 => (if y263.length + l0_5.length < 8796093022208 then (some (a0_0, a0_1, a0_2, a0_3, a0_4, (y263 ++ l0_5))) else (none))
def wicketlaw11_theirs.T1 : Bool × List (List Nat × List Nat) := (true, [([], []), ([0], [0]), ([], []), ([2], [2]), ([], []), ([4], [4]), ([], []), ([6], [6]), ([], []), ([8], [8]), ([], []), ([], []), ([11], [11]), ([10, 12], [10, 12]), ([1, 3, 5, 7, 9, 13], [1, 3, 5, 7, 9, 13]), ([14, 13, 0, 1, 2, 3, 4, 5, 6, 7, 8, 9, 10, 11, 12, 13, 14], [14])])
def wicketlaw11_theirs.B1 : List Nat := [0, 1, 0, 4, 0, 16, 0, 64, 0, 256, 0, 0, 2048, 7168, 16383, 32767]
theorem wicketlaw11_theirs.tab1 : rtab .any (opsOf Tryz.f24 1) = wicketlaw11_theirs.T1 := by kernel_rfl
theorem wicketlaw11_theirs.bits1 : waitsOk wicketlaw11_theirs.T1.2 wicketlaw11_theirs.B1 = true := by kernel_rfl
set_option maxHeartbeats 8000000 in
set_option maxRecDepth 100000 in
theorem wicketlaw11_theirs.calls (a0_0 : ByteArray) (a0_1 : ByteArray) (a0_2 : Int) (a0_3 : Bool) (a0_4 : ByteArray) (A0_5 : Option Addr) (c0_5 : Nat) (l0_5 : List ByteArray) (r1 : ByteArray) (r2 : ByteArray) (r3 : Int) (r4 : Bool) (r5 : ByteArray) (r6 : List ByteArray) (w : World) (hr0_5 : Kd.C Kd.string w A0_5 l0_5.length l0_5) (hc0_5 : l0_5.length ≤ c0_5) (h : wicketlaw11_theirs.f a0_0 a0_1 a0_2 a0_3 a0_4 l0_5 = some (r1, r2, r3, r4, r5, r6)) :
 Calls Tryz.prog 24 #[.agg #[.string a0_0, .string a0_1, .int .i64 a0_2, .bool a0_3, .string a0_4, .slice A0_5 l0_5.length c0_5]] w fun e w' => ∃ v5_ : Value, e = .returned (.agg #[.string r1, .string r2, .int .i64 r3, .bool r4, .string r5, v5_]) ∧ Kd.R Kd.string 9 w' w.heap.size (fun _ => True) v5_ r6 ∧ Below w.heap.size w w' := by
 have hu43 := Tryz.underlying43
 have hu40 := Tryz.underlying40
 have HR0_5 := Aside0.mk hr0_5
 have HC0_5 := Aside0.mk hc0_5
 clear hr0_5 hc0_5
 have HB := Aside0.mk (Below.refl w.heap.size w)
 have H : ((some (([] : List ByteArray) : List ByteArray)).bind fun y263 => (if y263.length + l0_5.length < 8796093022208 then (some (a0_0, a0_1, a0_2, a0_3, a0_4, (y263 ++ l0_5))) else (none))) = some (r1, r2, r3, r4, r5, r6) := h
 clear h
 obtain ⟨y263, hy263⟩ : ∃ y_ : List ByteArray, y_ = (([] : List ByteArray)) := ⟨_, rfl⟩
 replace H : (if y263.length + l0_5.length < 8796093022208 then (some (a0_0, a0_1, a0_2, a0_3, a0_4, (y263 ++ l0_5))) else (none)) = some (r1, r2, r3, r4, r5, r6) := by (have H2_ := (Option.bind_some _ _).symm.trans H; rw [hy263]; with_reducible exact H2_)
 have Ny263 := Aside0.mk hy263
 clear hy263
 by_cases c2 : y263.length + l0_5.length < 8796093022208
 · rw [if_pos c2] at H
   have LMc2 := Aside0.mk c2
   clear c2
   obtain ⟨y266, hy266⟩ : ∃ y_ : List ByteArray, y_ = (y263 ++ l0_5) := ⟨_, rfl⟩
   replace H : (some (a0_0, a0_1, a0_2, a0_3, a0_4, y266)) = some (r1, r2, r3, r4, r5, r6) := by (rw [hy266]; with_reducible exact H)
   have Ny266 := Aside0.mk hy266
   clear hy266
   simp only [Option.some.injEq, Prod.mk.injEq] at H
   obtain ⟨rfl, rfl, rfl, rfl, rfl, rfl⟩ := H
   go_enter Tryz.func24, Tryz.ntmps24
   try go_wp2_with (first | ((with_reducible refine gate_dst (N := 1) rfl ?_); refine box_event ?hg (N := 1) ?hd (cs := #[.string a0_0, .string a0_1, .int .i64 a0_2, .bool a0_3, .string a0_4, .slice A0_5 l0_5.length c0_5]) (t := 43) ?hr ?_; (case hd => rfl); (case hg => rfl); (case hr => (go_simp; done)); intro gb261 hg w3 hbox hb; have BK261 := Aside0.mk hbox; have GW261 := Aside0.mk ((by rw [hg]; exact (below_size HB.out) : w.heap.size ≤ gb261)); have GE261 := Aside0.mk ((by rw [hg]; exact (below_size HB.out) : w.heap.size ≤ gb261)); replace HB := Aside0.mk (below_step HB.out hb); clear hb hbox hg) | ((with_reducible refine gate_dst (N := 2) rfl ?_); refine box_event ?hg (N := 2) ?hd (cs := #[.string (⟨#[]⟩ : ByteArray), .string (⟨#[]⟩ : ByteArray), .int .i64 0, .bool false, .string (⟨#[]⟩ : ByteArray), .slice none 0 0]) (t := 40) ?hr ?_; (case hd => rfl); (case hg => rfl); (case hr => (go_simp; done)); intro gb262 hg w4 hbox hb; have BK262 := Aside0.mk hbox; have GW262 := Aside0.mk ((by rw [hg]; exact (below_size HB.out) : w.heap.size ≤ gb262)); have GE262 := Aside0.mk ((by rw [hg]; exact (below_size HB.out) : w.heap.size ≤ gb262)); replace HB := Aside0.mk (below_step HB.out hb); have NB261_262 := Aside0.mk ((by rw [hg]; exact Nat.ne_of_lt (blk_lt (g := gb261) (o := .cells #[.string a0_0, .string a0_1, .int .i64 a0_2, .bool a0_3, .string a0_4, .slice A0_5 l0_5.length c0_5] 43 (0, 0)) BK261.out) : gb261 ≠ gb262)); have NB262_261 := Aside0.mk ((by rw [hg]; exact Nat.ne_of_gt (blk_lt (g := gb261) (o := .cells #[.string a0_0, .string a0_1, .int .i64 a0_2, .bool a0_3, .string a0_4, .slice A0_5 l0_5.length c0_5] 43 (0, 0)) BK261.out) : gb262 ≠ gb261)); replace BK261 := Aside0.mk (blk_below (g := gb261) (o := .cells #[.string a0_0, .string a0_1, .int .i64 a0_2, .bool a0_3, .string a0_4, .slice A0_5 l0_5.length c0_5] 43 (0, 0)) BK261.out hb); clear hb hbox hg))
   have n0_ := Aside0.mk (blk_drew BK261.out)
   have n1_ := Aside0.mk (blk_drew BK262.out)
   have n2_ := Aside0.mk (below_drew1 HB.out)
   clear BK261 BK262 HB
   have BK261 := n0_
   have BK262 := n1_
   have HB := n2_
   clear n0_ n1_ n2_
   refine start_ (n := 16) (S := fun w' => w'.cell? ⟨gb261, 0, none⟩ = some (.string a0_0) ∧ w'.cell? ⟨gb261, 1, none⟩ = some (.string a0_1) ∧ w'.cell? ⟨gb261, 2, none⟩ = some (.int .i64 a0_2) ∧ w'.cell? ⟨gb261, 3, none⟩ = some (.bool a0_3) ∧ w'.cell? ⟨gb261, 4, none⟩ = some (.string a0_4) ∧ w'.cell? ⟨gb261, 5, none⟩ = some (.slice A0_5 l0_5.length c0_5)) (ds := []) #[false, false, false, false, false, false, false, false, false, false, false, false, false, false, false, false] (by kernel_rfl) rfl rfl ⟨(blk_cell BK261.out 0).trans rfl, (blk_cell BK261.out 1).trans rfl, (blk_cell BK261.out 2).trans rfl, (blk_cell BK261.out 3).trans rfl, (blk_cell BK261.out 4).trans rfl, (blk_cell BK261.out 5).trans rfl⟩ (fun hHeld => ?_); refine with_tabW wicketlaw11_theirs.tab1 wicketlaw11_theirs.bits1 (fun HT_ HW_ => ?_)
   generalize w4.drew = w5 at BK261 BK262 HB hHeld ⊢
   refine pure_ (i := 0) (N := some 3) (v := ?_) (a' := ?_) #[true, false, false, false, false, false, false, false, false, false, false, false, false, false, false, false] rfl rfl (any_of HT_.out (by kernel_rfl)) (fun _ _ _ h => h) (Or.inl ⟨by rfl, ?_⟩) ?_ ?_
   rotate_left
   · intro w'
     go_simp
     with_reducible rfl
   rotate_left
   · simp only [Act.put, List.setIfInBounds_toArray, List.set_cons_zero, List.set_cons_succ, i64_w, i32_w]
     rfl
   refine pure_ (i := 2) (N := some 5) (v := ?_) (a' := ?_) #[true, false, true, false, false, false, false, false, false, false, false, false, false, false, false, false] rfl rfl (any_of HT_.out (by kernel_rfl)) (fun _ _ _ h => h) (Or.inl ⟨by rfl, ?_⟩) ?_ ?_
   rotate_left
   · intro w'
     go_simp
     with_reducible rfl
   rotate_left
   · simp only [Act.put, List.setIfInBounds_toArray, List.set_cons_zero, List.set_cons_succ, i64_w, i32_w]
     rfl
   refine pure_ (i := 4) (N := some 7) (v := ?_) (a' := ?_) #[true, false, true, false, true, false, false, false, false, false, false, false, false, false, false, false] rfl rfl (any_of HT_.out (by kernel_rfl)) (fun _ _ _ h => h) (Or.inl ⟨by rfl, ?_⟩) ?_ ?_
   rotate_left
   · intro w'
     go_simp
     with_reducible rfl
   rotate_left
   · simp only [Act.put, List.setIfInBounds_toArray, List.set_cons_zero, List.set_cons_succ, i64_w, i32_w]
     rfl
   refine pure_ (i := 6) (N := some 9) (v := ?_) (a' := ?_) #[true, false, true, false, true, false, true, false, false, false, false, false, false, false, false, false] rfl rfl (any_of HT_.out (by kernel_rfl)) (fun _ _ _ h => h) (Or.inl ⟨by rfl, ?_⟩) ?_ ?_
   rotate_left
   · intro w'
     go_simp
     with_reducible rfl
   rotate_left
   · simp only [Act.put, List.setIfInBounds_toArray, List.set_cons_zero, List.set_cons_succ, i64_w, i32_w]
     rfl
   refine pure_ (i := 8) (N := some 11) (v := ?_) (a' := ?_) #[true, false, true, false, true, false, true, false, true, false, false, false, false, false, false, false] rfl rfl (any_of HT_.out (by kernel_rfl)) (fun _ _ _ h => h) (Or.inl ⟨by rfl, ?_⟩) ?_ ?_
   rotate_left
   · intro w'
     go_simp
     with_reducible rfl
   rotate_left
   · simp only [Act.put, List.setIfInBounds_toArray, List.set_cons_zero, List.set_cons_succ, i64_w, i32_w]
     rfl
   refine pure_ (i := 11) (N := some 14) (v := ?_) (a' := ?_) #[true, false, true, false, true, false, true, false, true, false, false, true, false, false, false, false] rfl rfl (any_of HT_.out (by kernel_rfl)) (fun _ _ _ h => h) (Or.inl ⟨by rfl, ?_⟩) ?_ ?_
   rotate_left
   · intro w'
     go_simp
     with_reducible rfl
   rotate_left
   · simp only [Act.put, List.setIfInBounds_toArray, List.set_cons_zero, List.set_cons_succ, i64_w, i32_w]
     rfl
   refine take_ (i := 1) (N := some 4) (v := ?_) (a' := ?_) #[true, true, true, false, true, false, true, false, true, false, false, true, false, false, false, false] rfl rfl (take_ofW HT_.out HW_.out (by kernel_rfl)) (fun _ _ _ h => h) (Or.inl ⟨by rfl, ?_⟩) hHeld ?_ ?_
   rotate_left
   · rintro w' ⟨s0, s1, s2, s3, s4, s5⟩
     go_simp
     with_reducible rfl
   rotate_left
   · simp only [Act.put, List.setIfInBounds_toArray, List.set_cons_zero, List.set_cons_succ, i64_w, i32_w]
     rfl
   refine take_ (i := 3) (N := some 6) (v := ?_) (a' := ?_) #[true, true, true, true, true, false, true, false, true, false, false, true, false, false, false, false] rfl rfl (take_ofW HT_.out HW_.out (by kernel_rfl)) (fun _ _ _ h => h) (Or.inl ⟨by rfl, ?_⟩) hHeld ?_ ?_
   rotate_left
   · rintro w' ⟨s0, s1, s2, s3, s4, s5⟩
     go_simp
     with_reducible rfl
   rotate_left
   · simp only [Act.put, List.setIfInBounds_toArray, List.set_cons_zero, List.set_cons_succ, i64_w, i32_w]
     rfl
   refine take_ (i := 5) (N := some 8) (v := ?_) (a' := ?_) #[true, true, true, true, true, true, true, false, true, false, false, true, false, false, false, false] rfl rfl (take_ofW HT_.out HW_.out (by kernel_rfl)) (fun _ _ _ h => h) (Or.inl ⟨by rfl, ?_⟩) hHeld ?_ ?_
   rotate_left
   · rintro w' ⟨s0, s1, s2, s3, s4, s5⟩
     go_simp
     with_reducible rfl
   rotate_left
   · simp only [Act.put, List.setIfInBounds_toArray, List.set_cons_zero, List.set_cons_succ, i64_w, i32_w]
     rfl
   refine take_ (i := 7) (N := some 10) (v := ?_) (a' := ?_) #[true, true, true, true, true, true, true, true, true, false, false, true, false, false, false, false] rfl rfl (take_ofW HT_.out HW_.out (by kernel_rfl)) (fun _ _ _ h => h) (Or.inl ⟨by rfl, ?_⟩) hHeld ?_ ?_
   rotate_left
   · rintro w' ⟨s0, s1, s2, s3, s4, s5⟩
     go_simp
     with_reducible rfl
   rotate_left
   · simp only [Act.put, List.setIfInBounds_toArray, List.set_cons_zero, List.set_cons_succ, i64_w, i32_w]
     rfl
   refine take_ (i := 9) (N := some 12) (v := ?_) (a' := ?_) #[true, true, true, true, true, true, true, true, true, true, false, true, false, false, false, false] rfl rfl (take_ofW HT_.out HW_.out (by kernel_rfl)) (fun _ _ _ h => h) (Or.inl ⟨by rfl, ?_⟩) hHeld ?_ ?_
   rotate_left
   · rintro w' ⟨s0, s1, s2, s3, s4, s5⟩
     go_simp
     with_reducible rfl
   rotate_left
   · simp only [Act.put, List.setIfInBounds_toArray, List.set_cons_zero, List.set_cons_succ, i64_w, i32_w]
     rfl
   refine take_ (i := 12) (N := some 15) (v := ?_) (a' := ?_) #[true, true, true, true, true, true, true, true, true, true, false, true, true, false, false, false] rfl rfl (take_ofW HT_.out HW_.out (by kernel_rfl)) (fun _ _ _ h => h) (Or.inl ⟨by rfl, ?_⟩) hHeld ?_ ?_
   rotate_left
   · rintro w' ⟨s0, s1, s2, s3, s4, s5⟩
     go_simp
     with_reducible rfl
   rotate_left
   · simp only [Act.put, List.setIfInBounds_toArray, List.set_cons_zero, List.set_cons_succ, i64_w, i32_w]
     rfl
   refine one_ (i := 10) (N := some 13) #[true, true, true, true, true, true, true, true, true, true, true, true, true, false, false, false] rfl rfl (one_of HT_.out (by kernel_rfl)) (by decide) (fun K hK => ?_)
   refine Kd.R_lit_step Kd.string _ 9 ?hg (N := 13) ?hd (xs := ([] : List ByteArray)) (inner := []) (ok := fun _ => True) (okp := fun _ => True) ?hr ?hp (fun _ hk => hk) trivial (Below.refl _ _) (Nat.le_refl _) (by simp) ?_; (case hd => rfl); (case hg => rfl); (case hr => (go_simp; done)); (case hp => exact (Reps.none _ _))
   intro v264 w6 ho7 hb hg_ hnew_
   clear hg_ hnew_
   (rw [← Ny263.out] at ho7)
   have n0_ := Aside0.mk (Kd.R_lower ho7 (below_size HB.out))
   have n1_ := Aside0.mk (blk_below (g := gb261) (o := .cells #[.string a0_0, .string a0_1, .int .i64 a0_2, .bool a0_3, .string a0_4, .slice A0_5 l0_5.length c0_5] 43 (0, 0)) BK261.out hb)
   have n2_ := Aside0.mk (blk_below (g := gb262) (o := .cells #[.string (⟨#[]⟩ : ByteArray), .string (⟨#[]⟩ : ByteArray), .int .i64 0, .bool false, .string (⟨#[]⟩ : ByteArray), .slice none 0 0] 40 (0, 0)) BK262.out hb)
   have n3_ := Aside0.mk (below_step HB.out hb)
   clear BK261 BK262 HB
   have HO265 := n0_
   have BK261 := n1_
   have BK262 := n2_
   have HB := n3_
   clear n0_ n1_ n2_ n3_ hb ho7
   refine hK.out _ _ ⟨(blk_cell BK261.out 0).trans rfl, (blk_cell BK261.out 1).trans rfl, (blk_cell BK261.out 2).trans rfl, (blk_cell BK261.out 3).trans rfl, (blk_cell BK261.out 4).trans rfl, (blk_cell BK261.out 5).trans rfl⟩ (fun hHeld => ?_)
   clear hK K
   refine norm_ (a' := ?_) ?_ ?_
   rotate_left
   · show Act.put _ (some 13) _ = _
     simp only [Act.put, List.setIfInBounds_toArray, List.set_cons_zero, List.set_cons_succ, i64_w, i32_w]
     rfl
   refine one_ (i := 13) (N := some 16) #[true, true, true, true, true, true, true, true, true, true, true, true, true, true, false, false] rfl rfl (one_of HT_.out (by kernel_rfl)) (by decide) (fun K hK => ?_)
   refine Kd.R_append_rows_step Kd.string (w0 := w) w.heap.size rfl (.tmp 13) (.tmp 15) 38 9 (.string ⟨#[]⟩) 16 rfl Tryz.underlying38 info9 rfl (by decide) (by omega) v264 y263 l0_5 _ _ _ (fun _ => True) (fun _ => False) rfl rfl ?aO ?aR (fun _ _ h => h) (fun _ h => h.elim) ?aF ?aB ?aS ?aL ?_
   (case aR => repeat (exact (Kd.C_below HR0_5.out HB.out)))
   (case aB => exact HB.out)
   (case aF => exact (fun _ _ => trivial))
   (case aO => exact HO265.out)
   (case aS => exact (below_size HB.out))
   (case aL => have := LMc2.out; omega)
   intro v267 w8 ho hb hg hat
   rw [← Ny266.out] at ho
   have n0_ := Aside0.mk (blk_grown (g := gb261) (o := .cells #[.string a0_0, .string a0_1, .int .i64 a0_2, .bool a0_3, .string a0_4, .slice A0_5 l0_5.length c0_5] 43 (0, 0)) BK261.out hg (Kd.R_ne HO265.out BK261.out (by decide)))
   have n1_ := Aside0.mk (blk_grown (g := gb262) (o := .cells #[.string (⟨#[]⟩ : ByteArray), .string (⟨#[]⟩ : ByteArray), .int .i64 0, .bool false, .string (⟨#[]⟩ : ByteArray), .slice none 0 0] 40 (0, 0)) BK262.out hg (Kd.R_ne HO265.out BK262.out (by decide)))
   have n2_ := Aside0.mk hb
   have n3_ := Aside0.mk ho
   clear BK261 BK262 HB HO265
   have BK261 := n0_
   have BK262 := n1_
   have HB := n2_
   have HO268 := n3_
   clear n0_ n1_ n2_ n3_ ho hb hg hat
   obtain ⟨Ao9, co9, eo9⟩ := Kd.R_slice HO268.out
   (subst eo9)
   refine hK.out _ _ ⟨(blk_cell BK261.out 0).trans rfl, (blk_cell BK261.out 1).trans rfl, (blk_cell BK261.out 2).trans rfl, (blk_cell BK261.out 3).trans rfl, (blk_cell BK261.out 4).trans rfl, (blk_cell BK261.out 5).trans rfl⟩ (fun hHeld => ?_)
   clear hK K
   refine norm_ (a' := ?_) ?_ ?_
   rotate_left
   · show Act.put _ (some 16) _ = _
     simp only [Act.put, List.setIfInBounds_toArray, List.set_cons_zero, List.set_cons_succ, i64_w, i32_w]
     rfl
   refine pure_ (i := 14) (N := some 17) (v := ?_) (a' := ?_) #[true, true, true, true, true, true, true, true, true, true, true, true, true, true, true, false] rfl rfl (any_of HT_.out (by kernel_rfl)) (fun _ _ _ h => h) (Or.inl ⟨by rfl, ?_⟩) ?_ ?_
   rotate_left
   · intro w'
     go_simp
     with_reducible rfl
   rotate_left
   · simp only [Act.put, List.setIfInBounds_toArray, List.set_cons_zero, List.set_cons_succ, i64_w, i32_w]
     rfl
   refine one_ (i := 15) (N := none) #[true, true, true, true, true, true, true, true, true, true, true, true, true, true, true, true] rfl rfl (one_of HT_.out (by kernel_rfl)) (by decide) (fun K hK => ?_)
   have hs10 : w8.cell? ⟨gb262, 0, none⟩ = some (.string (⟨#[]⟩ : ByteArray)) := (blk_cell BK262.out 0).trans rfl
   have hfs10 := blk_frozen BK262.out 0
   have hns10_0 := NB261_262.out
   have hms10_0 := NB262_261.out
   have hs11 : w8.cell? ⟨gb262, 1, none⟩ = some (.string (⟨#[]⟩ : ByteArray)) := (blk_cell BK262.out 1).trans rfl
   have hfs11 := blk_frozen BK262.out 1
   have hns11_0 := NB261_262.out
   have hms11_0 := NB262_261.out
   have hs12 : w8.cell? ⟨gb262, 2, none⟩ = some (.int .i64 0) := (blk_cell BK262.out 2).trans rfl
   have hfs12 := blk_frozen BK262.out 2
   have hns12_0 := NB261_262.out
   have hms12_0 := NB262_261.out
   have hs13 : w8.cell? ⟨gb262, 3, none⟩ = some (.bool false) := (blk_cell BK262.out 3).trans rfl
   have hfs13 := blk_frozen BK262.out 3
   have hns13_0 := NB261_262.out
   have hms13_0 := NB262_261.out
   have hs14 : w8.cell? ⟨gb262, 4, none⟩ = some (.string (⟨#[]⟩ : ByteArray)) := (blk_cell BK262.out 4).trans rfl
   have hfs14 := blk_frozen BK262.out 4
   have hns14_0 := NB261_262.out
   have hms14_0 := NB262_261.out
   have hs15 : w8.cell? ⟨gb262, 5, none⟩ = some (.slice none 0 0) := (blk_cell BK262.out 5).trans rfl
   have hfs15 := blk_frozen BK262.out 5
   have hns15_0 := NB261_262.out
   have hms15_0 := NB262_261.out
   refine skip_ (w1 := ?_) rfl rfl ?_ ?_
   rotate_left
   · go_simp
     rfl
   refine hK.out _ _ ⟨((cell_far (p := ⟨gb262, _, none⟩) NB261_262.out _).trans (((cell_far (p := ⟨gb262, _, none⟩) NB261_262.out _).trans (((cell_far (p := ⟨gb262, _, none⟩) NB261_262.out _).trans (((cell_far (p := ⟨gb262, _, none⟩) NB261_262.out _).trans (((cell_far (p := ⟨gb262, _, none⟩) NB261_262.out _).trans (((cell_far (p := ⟨gb262, _, none⟩) NB261_262.out _).trans (hHeld.1)))))))))))), ((cell_far (p := ⟨gb262, _, none⟩) NB261_262.out _).trans (((cell_far (p := ⟨gb262, _, none⟩) NB261_262.out _).trans (((cell_far (p := ⟨gb262, _, none⟩) NB261_262.out _).trans (((cell_far (p := ⟨gb262, _, none⟩) NB261_262.out _).trans (((cell_far (p := ⟨gb262, _, none⟩) NB261_262.out _).trans (((cell_far (p := ⟨gb262, _, none⟩) NB261_262.out _).trans (hHeld.2.1)))))))))))), ((cell_far (p := ⟨gb262, _, none⟩) NB261_262.out _).trans (((cell_far (p := ⟨gb262, _, none⟩) NB261_262.out _).trans (((cell_far (p := ⟨gb262, _, none⟩) NB261_262.out _).trans (((cell_far (p := ⟨gb262, _, none⟩) NB261_262.out _).trans (((cell_far (p := ⟨gb262, _, none⟩) NB261_262.out _).trans (((cell_far (p := ⟨gb262, _, none⟩) NB261_262.out _).trans (hHeld.2.2.1)))))))))))), ((cell_far (p := ⟨gb262, _, none⟩) NB261_262.out _).trans (((cell_far (p := ⟨gb262, _, none⟩) NB261_262.out _).trans (((cell_far (p := ⟨gb262, _, none⟩) NB261_262.out _).trans (((cell_far (p := ⟨gb262, _, none⟩) NB261_262.out _).trans (((cell_far (p := ⟨gb262, _, none⟩) NB261_262.out _).trans (((cell_far (p := ⟨gb262, _, none⟩) NB261_262.out _).trans (hHeld.2.2.2.1)))))))))))), ((cell_far (p := ⟨gb262, _, none⟩) NB261_262.out _).trans (((cell_far (p := ⟨gb262, _, none⟩) NB261_262.out _).trans (((cell_far (p := ⟨gb262, _, none⟩) NB261_262.out _).trans (((cell_far (p := ⟨gb262, _, none⟩) NB261_262.out _).trans (((cell_far (p := ⟨gb262, _, none⟩) NB261_262.out _).trans (((cell_far (p := ⟨gb262, _, none⟩) NB261_262.out _).trans (hHeld.2.2.2.2.1)))))))))))), ((cell_far (p := ⟨gb262, _, none⟩) NB261_262.out _).trans (((cell_far (p := ⟨gb262, _, none⟩) NB261_262.out _).trans (((cell_far (p := ⟨gb262, _, none⟩) NB261_262.out _).trans (((cell_far (p := ⟨gb262, _, none⟩) NB261_262.out _).trans (((cell_far (p := ⟨gb262, _, none⟩) NB261_262.out _).trans (((cell_far (p := ⟨gb262, _, none⟩) NB261_262.out _).trans (hHeld.2.2.2.2.2))))))))))))⟩ (fun hHeld => ?_)
   clear hK K
   refine done_ (done_of HT_.out (by kernel_rfl)) ?_
   try go_wp2
   refine bodyPost_ret (results_cell_row rfl _ _ gb262 40 #[.string a0_0, .string a0_1, .int .i64 a0_2, .bool a0_3, .string a0_4, .slice Ao9 y266.length co9] (0, 0) _ rfl (put6_ BK262.out _ _ _ _ _ _) Tryz.underlying40 rfl (by kernel_rfl)) rfl ?_
   exact ⟨_, rfl, by (with_reducible repeat (first | apply Kd.R_alloc  | apply Kd.R_drewN  | apply Kd.R_drew)); exact Kd.R_mono (R_far6 (Kd.R_types HO268.out BK262.out (by decide)) (fun _ hk => hk.2)) (fun _ hk => trivial), by (repeat (with_reducible first | exact HB.out | refine below_set ?_ GE262.out))⟩
 · rw [if_neg c2] at H
   exact absurd H (by simp)
def wicketlaw11_ours.f (a0_0 : ByteArray) (a0_1 : ByteArray) (a0_2 : Int) (a0_3 : Bool) (a0_4 : ByteArray) (l0_5 : List ByteArray) : Option (ByteArray × ByteArray × Int × Bool × ByteArray × List ByteArray) := (some (([] : List ByteArray) : List ByteArray)).bind fun y271 => (if y271.length + l0_5.length < 8796093022208 then (some (a0_0, a0_1, a0_2, a0_3, a0_4, (y271 ++ l0_5))) else (none))
def wicketlaw11_ours.T1 : Bool × List (List Nat × List Nat) := (true, [([], []), ([0], [0]), ([], []), ([2], [2]), ([], []), ([4], [4]), ([], []), ([6], [6]), ([], []), ([8], [8]), ([], []), ([], []), ([11], [11]), ([10, 12], [10, 12]), ([1, 3, 5, 7, 9, 13], [1, 3, 5, 7, 9, 13]), ([14, 13, 0, 1, 2, 3, 4, 5, 6, 7, 8, 9, 10, 11, 12, 13, 14], [14])])
def wicketlaw11_ours.B1 : List Nat := [0, 1, 0, 4, 0, 16, 0, 64, 0, 256, 0, 0, 2048, 7168, 16383, 32767]
theorem wicketlaw11_ours.tab1 : rtab .any (opsOf Tryz.f25 1) = wicketlaw11_ours.T1 := by kernel_rfl
theorem wicketlaw11_ours.bits1 : waitsOk wicketlaw11_ours.T1.2 wicketlaw11_ours.B1 = true := by kernel_rfl
set_option maxHeartbeats 8000000 in
set_option maxRecDepth 100000 in
theorem wicketlaw11_ours.calls (a0_0 : ByteArray) (a0_1 : ByteArray) (a0_2 : Int) (a0_3 : Bool) (a0_4 : ByteArray) (A0_5 : Option Addr) (c0_5 : Nat) (l0_5 : List ByteArray) (r1 : ByteArray) (r2 : ByteArray) (r3 : Int) (r4 : Bool) (r5 : ByteArray) (r6 : List ByteArray) (w : World) (hr0_5 : Kd.C Kd.string w A0_5 l0_5.length l0_5) (hc0_5 : l0_5.length ≤ c0_5) (h : wicketlaw11_ours.f a0_0 a0_1 a0_2 a0_3 a0_4 l0_5 = some (r1, r2, r3, r4, r5, r6)) :
 Calls Tryz.prog 25 #[.agg #[.string a0_0, .string a0_1, .int .i64 a0_2, .bool a0_3, .string a0_4, .slice A0_5 l0_5.length c0_5]] w fun e w' => ∃ v5_ : Value, e = .returned (.agg #[.string r1, .string r2, .int .i64 r3, .bool r4, .string r5, v5_]) ∧ Kd.R Kd.string 9 w' w.heap.size (fun _ => True) v5_ r6 ∧ Below w.heap.size w w' := by
 have hu40 := Tryz.underlying40
 have hu43 := Tryz.underlying43
 have HR0_5 := Aside0.mk hr0_5
 have HC0_5 := Aside0.mk hc0_5
 clear hr0_5 hc0_5
 have HB := Aside0.mk (Below.refl w.heap.size w)
 have H : ((some (([] : List ByteArray) : List ByteArray)).bind fun y271 => (if y271.length + l0_5.length < 8796093022208 then (some (a0_0, a0_1, a0_2, a0_3, a0_4, (y271 ++ l0_5))) else (none))) = some (r1, r2, r3, r4, r5, r6) := h
 clear h
 obtain ⟨y271, hy271⟩ : ∃ y_ : List ByteArray, y_ = (([] : List ByteArray)) := ⟨_, rfl⟩
 replace H : (if y271.length + l0_5.length < 8796093022208 then (some (a0_0, a0_1, a0_2, a0_3, a0_4, (y271 ++ l0_5))) else (none)) = some (r1, r2, r3, r4, r5, r6) := by (have H2_ := (Option.bind_some _ _).symm.trans H; rw [hy271]; with_reducible exact H2_)
 have Ny271 := Aside0.mk hy271
 clear hy271
 by_cases c2 : y271.length + l0_5.length < 8796093022208
 · rw [if_pos c2] at H
   have LMc2 := Aside0.mk c2
   clear c2
   obtain ⟨y274, hy274⟩ : ∃ y_ : List ByteArray, y_ = (y271 ++ l0_5) := ⟨_, rfl⟩
   replace H : (some (a0_0, a0_1, a0_2, a0_3, a0_4, y274)) = some (r1, r2, r3, r4, r5, r6) := by (rw [hy274]; with_reducible exact H)
   have Ny274 := Aside0.mk hy274
   clear hy274
   simp only [Option.some.injEq, Prod.mk.injEq] at H
   obtain ⟨rfl, rfl, rfl, rfl, rfl, rfl⟩ := H
   go_enter Tryz.func25, Tryz.ntmps25
   try go_wp2_with (first | ((with_reducible refine gate_dst (N := 1) rfl ?_); refine box_event ?hg (N := 1) ?hd (cs := #[.string a0_0, .string a0_1, .int .i64 a0_2, .bool a0_3, .string a0_4, .slice A0_5 l0_5.length c0_5]) (t := 40) ?hr ?_; (case hd => rfl); (case hg => rfl); (case hr => (go_simp; done)); intro gb269 hg w3 hbox hb; have BK269 := Aside0.mk hbox; have GW269 := Aside0.mk ((by rw [hg]; exact (below_size HB.out) : w.heap.size ≤ gb269)); have GE269 := Aside0.mk ((by rw [hg]; exact (below_size HB.out) : w.heap.size ≤ gb269)); replace HB := Aside0.mk (below_step HB.out hb); clear hb hbox hg) | ((with_reducible refine gate_dst (N := 2) rfl ?_); refine box_event ?hg (N := 2) ?hd (cs := #[.string (⟨#[]⟩ : ByteArray), .string (⟨#[]⟩ : ByteArray), .int .i64 0, .bool false, .string (⟨#[]⟩ : ByteArray), .slice none 0 0]) (t := 43) ?hr ?_; (case hd => rfl); (case hg => rfl); (case hr => (go_simp; done)); intro gb270 hg w4 hbox hb; have BK270 := Aside0.mk hbox; have GW270 := Aside0.mk ((by rw [hg]; exact (below_size HB.out) : w.heap.size ≤ gb270)); have GE270 := Aside0.mk ((by rw [hg]; exact (below_size HB.out) : w.heap.size ≤ gb270)); replace HB := Aside0.mk (below_step HB.out hb); have NB269_270 := Aside0.mk ((by rw [hg]; exact Nat.ne_of_lt (blk_lt (g := gb269) (o := .cells #[.string a0_0, .string a0_1, .int .i64 a0_2, .bool a0_3, .string a0_4, .slice A0_5 l0_5.length c0_5] 40 (0, 0)) BK269.out) : gb269 ≠ gb270)); have NB270_269 := Aside0.mk ((by rw [hg]; exact Nat.ne_of_gt (blk_lt (g := gb269) (o := .cells #[.string a0_0, .string a0_1, .int .i64 a0_2, .bool a0_3, .string a0_4, .slice A0_5 l0_5.length c0_5] 40 (0, 0)) BK269.out) : gb270 ≠ gb269)); replace BK269 := Aside0.mk (blk_below (g := gb269) (o := .cells #[.string a0_0, .string a0_1, .int .i64 a0_2, .bool a0_3, .string a0_4, .slice A0_5 l0_5.length c0_5] 40 (0, 0)) BK269.out hb); clear hb hbox hg))
   have n0_ := Aside0.mk (blk_drew BK269.out)
   have n1_ := Aside0.mk (blk_drew BK270.out)
   have n2_ := Aside0.mk (below_drew1 HB.out)
   clear BK269 BK270 HB
   have BK269 := n0_
   have BK270 := n1_
   have HB := n2_
   clear n0_ n1_ n2_
   refine start_ (n := 16) (S := fun w' => w'.cell? ⟨gb269, 0, none⟩ = some (.string a0_0) ∧ w'.cell? ⟨gb269, 1, none⟩ = some (.string a0_1) ∧ w'.cell? ⟨gb269, 2, none⟩ = some (.int .i64 a0_2) ∧ w'.cell? ⟨gb269, 3, none⟩ = some (.bool a0_3) ∧ w'.cell? ⟨gb269, 4, none⟩ = some (.string a0_4) ∧ w'.cell? ⟨gb269, 5, none⟩ = some (.slice A0_5 l0_5.length c0_5)) (ds := []) #[false, false, false, false, false, false, false, false, false, false, false, false, false, false, false, false] (by kernel_rfl) rfl rfl ⟨(blk_cell BK269.out 0).trans rfl, (blk_cell BK269.out 1).trans rfl, (blk_cell BK269.out 2).trans rfl, (blk_cell BK269.out 3).trans rfl, (blk_cell BK269.out 4).trans rfl, (blk_cell BK269.out 5).trans rfl⟩ (fun hHeld => ?_); refine with_tabW wicketlaw11_ours.tab1 wicketlaw11_ours.bits1 (fun HT_ HW_ => ?_)
   generalize w4.drew = w5 at BK269 BK270 HB hHeld ⊢
   refine pure_ (i := 0) (N := some 3) (v := ?_) (a' := ?_) #[true, false, false, false, false, false, false, false, false, false, false, false, false, false, false, false] rfl rfl (any_of HT_.out (by kernel_rfl)) (fun _ _ _ h => h) (Or.inl ⟨by rfl, ?_⟩) ?_ ?_
   rotate_left
   · intro w'
     go_simp
     with_reducible rfl
   rotate_left
   · simp only [Act.put, List.setIfInBounds_toArray, List.set_cons_zero, List.set_cons_succ, i64_w, i32_w]
     rfl
   refine pure_ (i := 2) (N := some 5) (v := ?_) (a' := ?_) #[true, false, true, false, false, false, false, false, false, false, false, false, false, false, false, false] rfl rfl (any_of HT_.out (by kernel_rfl)) (fun _ _ _ h => h) (Or.inl ⟨by rfl, ?_⟩) ?_ ?_
   rotate_left
   · intro w'
     go_simp
     with_reducible rfl
   rotate_left
   · simp only [Act.put, List.setIfInBounds_toArray, List.set_cons_zero, List.set_cons_succ, i64_w, i32_w]
     rfl
   refine pure_ (i := 4) (N := some 7) (v := ?_) (a' := ?_) #[true, false, true, false, true, false, false, false, false, false, false, false, false, false, false, false] rfl rfl (any_of HT_.out (by kernel_rfl)) (fun _ _ _ h => h) (Or.inl ⟨by rfl, ?_⟩) ?_ ?_
   rotate_left
   · intro w'
     go_simp
     with_reducible rfl
   rotate_left
   · simp only [Act.put, List.setIfInBounds_toArray, List.set_cons_zero, List.set_cons_succ, i64_w, i32_w]
     rfl
   refine pure_ (i := 6) (N := some 9) (v := ?_) (a' := ?_) #[true, false, true, false, true, false, true, false, false, false, false, false, false, false, false, false] rfl rfl (any_of HT_.out (by kernel_rfl)) (fun _ _ _ h => h) (Or.inl ⟨by rfl, ?_⟩) ?_ ?_
   rotate_left
   · intro w'
     go_simp
     with_reducible rfl
   rotate_left
   · simp only [Act.put, List.setIfInBounds_toArray, List.set_cons_zero, List.set_cons_succ, i64_w, i32_w]
     rfl
   refine pure_ (i := 8) (N := some 11) (v := ?_) (a' := ?_) #[true, false, true, false, true, false, true, false, true, false, false, false, false, false, false, false] rfl rfl (any_of HT_.out (by kernel_rfl)) (fun _ _ _ h => h) (Or.inl ⟨by rfl, ?_⟩) ?_ ?_
   rotate_left
   · intro w'
     go_simp
     with_reducible rfl
   rotate_left
   · simp only [Act.put, List.setIfInBounds_toArray, List.set_cons_zero, List.set_cons_succ, i64_w, i32_w]
     rfl
   refine pure_ (i := 11) (N := some 14) (v := ?_) (a' := ?_) #[true, false, true, false, true, false, true, false, true, false, false, true, false, false, false, false] rfl rfl (any_of HT_.out (by kernel_rfl)) (fun _ _ _ h => h) (Or.inl ⟨by rfl, ?_⟩) ?_ ?_
   rotate_left
   · intro w'
     go_simp
     with_reducible rfl
   rotate_left
   · simp only [Act.put, List.setIfInBounds_toArray, List.set_cons_zero, List.set_cons_succ, i64_w, i32_w]
     rfl
   refine take_ (i := 1) (N := some 4) (v := ?_) (a' := ?_) #[true, true, true, false, true, false, true, false, true, false, false, true, false, false, false, false] rfl rfl (take_ofW HT_.out HW_.out (by kernel_rfl)) (fun _ _ _ h => h) (Or.inl ⟨by rfl, ?_⟩) hHeld ?_ ?_
   rotate_left
   · rintro w' ⟨s0, s1, s2, s3, s4, s5⟩
     go_simp
     with_reducible rfl
   rotate_left
   · simp only [Act.put, List.setIfInBounds_toArray, List.set_cons_zero, List.set_cons_succ, i64_w, i32_w]
     rfl
   refine take_ (i := 3) (N := some 6) (v := ?_) (a' := ?_) #[true, true, true, true, true, false, true, false, true, false, false, true, false, false, false, false] rfl rfl (take_ofW HT_.out HW_.out (by kernel_rfl)) (fun _ _ _ h => h) (Or.inl ⟨by rfl, ?_⟩) hHeld ?_ ?_
   rotate_left
   · rintro w' ⟨s0, s1, s2, s3, s4, s5⟩
     go_simp
     with_reducible rfl
   rotate_left
   · simp only [Act.put, List.setIfInBounds_toArray, List.set_cons_zero, List.set_cons_succ, i64_w, i32_w]
     rfl
   refine take_ (i := 5) (N := some 8) (v := ?_) (a' := ?_) #[true, true, true, true, true, true, true, false, true, false, false, true, false, false, false, false] rfl rfl (take_ofW HT_.out HW_.out (by kernel_rfl)) (fun _ _ _ h => h) (Or.inl ⟨by rfl, ?_⟩) hHeld ?_ ?_
   rotate_left
   · rintro w' ⟨s0, s1, s2, s3, s4, s5⟩
     go_simp
     with_reducible rfl
   rotate_left
   · simp only [Act.put, List.setIfInBounds_toArray, List.set_cons_zero, List.set_cons_succ, i64_w, i32_w]
     rfl
   refine take_ (i := 7) (N := some 10) (v := ?_) (a' := ?_) #[true, true, true, true, true, true, true, true, true, false, false, true, false, false, false, false] rfl rfl (take_ofW HT_.out HW_.out (by kernel_rfl)) (fun _ _ _ h => h) (Or.inl ⟨by rfl, ?_⟩) hHeld ?_ ?_
   rotate_left
   · rintro w' ⟨s0, s1, s2, s3, s4, s5⟩
     go_simp
     with_reducible rfl
   rotate_left
   · simp only [Act.put, List.setIfInBounds_toArray, List.set_cons_zero, List.set_cons_succ, i64_w, i32_w]
     rfl
   refine take_ (i := 9) (N := some 12) (v := ?_) (a' := ?_) #[true, true, true, true, true, true, true, true, true, true, false, true, false, false, false, false] rfl rfl (take_ofW HT_.out HW_.out (by kernel_rfl)) (fun _ _ _ h => h) (Or.inl ⟨by rfl, ?_⟩) hHeld ?_ ?_
   rotate_left
   · rintro w' ⟨s0, s1, s2, s3, s4, s5⟩
     go_simp
     with_reducible rfl
   rotate_left
   · simp only [Act.put, List.setIfInBounds_toArray, List.set_cons_zero, List.set_cons_succ, i64_w, i32_w]
     rfl
   refine take_ (i := 12) (N := some 15) (v := ?_) (a' := ?_) #[true, true, true, true, true, true, true, true, true, true, false, true, true, false, false, false] rfl rfl (take_ofW HT_.out HW_.out (by kernel_rfl)) (fun _ _ _ h => h) (Or.inl ⟨by rfl, ?_⟩) hHeld ?_ ?_
   rotate_left
   · rintro w' ⟨s0, s1, s2, s3, s4, s5⟩
     go_simp
     with_reducible rfl
   rotate_left
   · simp only [Act.put, List.setIfInBounds_toArray, List.set_cons_zero, List.set_cons_succ, i64_w, i32_w]
     rfl
   refine one_ (i := 10) (N := some 13) #[true, true, true, true, true, true, true, true, true, true, true, true, true, false, false, false] rfl rfl (one_of HT_.out (by kernel_rfl)) (by decide) (fun K hK => ?_)
   refine Kd.R_lit_step Kd.string _ 9 ?hg (N := 13) ?hd (xs := ([] : List ByteArray)) (inner := []) (ok := fun _ => True) (okp := fun _ => True) ?hr ?hp (fun _ hk => hk) trivial (Below.refl _ _) (Nat.le_refl _) (by simp) ?_; (case hd => rfl); (case hg => rfl); (case hr => (go_simp; done)); (case hp => exact (Reps.none _ _))
   intro v272 w6 ho7 hb hg_ hnew_
   clear hg_ hnew_
   (rw [← Ny271.out] at ho7)
   have n0_ := Aside0.mk (Kd.R_lower ho7 (below_size HB.out))
   have n1_ := Aside0.mk (blk_below (g := gb269) (o := .cells #[.string a0_0, .string a0_1, .int .i64 a0_2, .bool a0_3, .string a0_4, .slice A0_5 l0_5.length c0_5] 40 (0, 0)) BK269.out hb)
   have n2_ := Aside0.mk (blk_below (g := gb270) (o := .cells #[.string (⟨#[]⟩ : ByteArray), .string (⟨#[]⟩ : ByteArray), .int .i64 0, .bool false, .string (⟨#[]⟩ : ByteArray), .slice none 0 0] 43 (0, 0)) BK270.out hb)
   have n3_ := Aside0.mk (below_step HB.out hb)
   clear BK269 BK270 HB
   have HO273 := n0_
   have BK269 := n1_
   have BK270 := n2_
   have HB := n3_
   clear n0_ n1_ n2_ n3_ hb ho7
   refine hK.out _ _ ⟨(blk_cell BK269.out 0).trans rfl, (blk_cell BK269.out 1).trans rfl, (blk_cell BK269.out 2).trans rfl, (blk_cell BK269.out 3).trans rfl, (blk_cell BK269.out 4).trans rfl, (blk_cell BK269.out 5).trans rfl⟩ (fun hHeld => ?_)
   clear hK K
   refine norm_ (a' := ?_) ?_ ?_
   rotate_left
   · show Act.put _ (some 13) _ = _
     simp only [Act.put, List.setIfInBounds_toArray, List.set_cons_zero, List.set_cons_succ, i64_w, i32_w]
     rfl
   refine one_ (i := 13) (N := some 16) #[true, true, true, true, true, true, true, true, true, true, true, true, true, true, false, false] rfl rfl (one_of HT_.out (by kernel_rfl)) (by decide) (fun K hK => ?_)
   refine Kd.R_append_rows_step Kd.string (w0 := w) w.heap.size rfl (.tmp 13) (.tmp 15) 38 9 (.string ⟨#[]⟩) 16 rfl Tryz.underlying38 info9 rfl (by decide) (by omega) v272 y271 l0_5 _ _ _ (fun _ => True) (fun _ => False) rfl rfl ?aO ?aR (fun _ _ h => h) (fun _ h => h.elim) ?aF ?aB ?aS ?aL ?_
   (case aR => repeat (exact (Kd.C_below HR0_5.out HB.out)))
   (case aB => exact HB.out)
   (case aF => exact (fun _ _ => trivial))
   (case aO => exact HO273.out)
   (case aS => exact (below_size HB.out))
   (case aL => have := LMc2.out; omega)
   intro v275 w8 ho hb hg hat
   rw [← Ny274.out] at ho
   have n0_ := Aside0.mk (blk_grown (g := gb269) (o := .cells #[.string a0_0, .string a0_1, .int .i64 a0_2, .bool a0_3, .string a0_4, .slice A0_5 l0_5.length c0_5] 40 (0, 0)) BK269.out hg (Kd.R_ne HO273.out BK269.out (by decide)))
   have n1_ := Aside0.mk (blk_grown (g := gb270) (o := .cells #[.string (⟨#[]⟩ : ByteArray), .string (⟨#[]⟩ : ByteArray), .int .i64 0, .bool false, .string (⟨#[]⟩ : ByteArray), .slice none 0 0] 43 (0, 0)) BK270.out hg (Kd.R_ne HO273.out BK270.out (by decide)))
   have n2_ := Aside0.mk hb
   have n3_ := Aside0.mk ho
   clear BK269 BK270 HB HO273
   have BK269 := n0_
   have BK270 := n1_
   have HB := n2_
   have HO276 := n3_
   clear n0_ n1_ n2_ n3_ ho hb hg hat
   obtain ⟨Ao9, co9, eo9⟩ := Kd.R_slice HO276.out
   (subst eo9)
   refine hK.out _ _ ⟨(blk_cell BK269.out 0).trans rfl, (blk_cell BK269.out 1).trans rfl, (blk_cell BK269.out 2).trans rfl, (blk_cell BK269.out 3).trans rfl, (blk_cell BK269.out 4).trans rfl, (blk_cell BK269.out 5).trans rfl⟩ (fun hHeld => ?_)
   clear hK K
   refine norm_ (a' := ?_) ?_ ?_
   rotate_left
   · show Act.put _ (some 16) _ = _
     simp only [Act.put, List.setIfInBounds_toArray, List.set_cons_zero, List.set_cons_succ, i64_w, i32_w]
     rfl
   refine pure_ (i := 14) (N := some 17) (v := ?_) (a' := ?_) #[true, true, true, true, true, true, true, true, true, true, true, true, true, true, true, false] rfl rfl (any_of HT_.out (by kernel_rfl)) (fun _ _ _ h => h) (Or.inl ⟨by rfl, ?_⟩) ?_ ?_
   rotate_left
   · intro w'
     go_simp
     with_reducible rfl
   rotate_left
   · simp only [Act.put, List.setIfInBounds_toArray, List.set_cons_zero, List.set_cons_succ, i64_w, i32_w]
     rfl
   refine one_ (i := 15) (N := none) #[true, true, true, true, true, true, true, true, true, true, true, true, true, true, true, true] rfl rfl (one_of HT_.out (by kernel_rfl)) (by decide) (fun K hK => ?_)
   have hs10 : w8.cell? ⟨gb270, 0, none⟩ = some (.string (⟨#[]⟩ : ByteArray)) := (blk_cell BK270.out 0).trans rfl
   have hfs10 := blk_frozen BK270.out 0
   have hns10_0 := NB269_270.out
   have hms10_0 := NB270_269.out
   have hs11 : w8.cell? ⟨gb270, 1, none⟩ = some (.string (⟨#[]⟩ : ByteArray)) := (blk_cell BK270.out 1).trans rfl
   have hfs11 := blk_frozen BK270.out 1
   have hns11_0 := NB269_270.out
   have hms11_0 := NB270_269.out
   have hs12 : w8.cell? ⟨gb270, 2, none⟩ = some (.int .i64 0) := (blk_cell BK270.out 2).trans rfl
   have hfs12 := blk_frozen BK270.out 2
   have hns12_0 := NB269_270.out
   have hms12_0 := NB270_269.out
   have hs13 : w8.cell? ⟨gb270, 3, none⟩ = some (.bool false) := (blk_cell BK270.out 3).trans rfl
   have hfs13 := blk_frozen BK270.out 3
   have hns13_0 := NB269_270.out
   have hms13_0 := NB270_269.out
   have hs14 : w8.cell? ⟨gb270, 4, none⟩ = some (.string (⟨#[]⟩ : ByteArray)) := (blk_cell BK270.out 4).trans rfl
   have hfs14 := blk_frozen BK270.out 4
   have hns14_0 := NB269_270.out
   have hms14_0 := NB270_269.out
   have hs15 : w8.cell? ⟨gb270, 5, none⟩ = some (.slice none 0 0) := (blk_cell BK270.out 5).trans rfl
   have hfs15 := blk_frozen BK270.out 5
   have hns15_0 := NB269_270.out
   have hms15_0 := NB270_269.out
   refine skip_ (w1 := ?_) rfl rfl ?_ ?_
   rotate_left
   · go_simp
     rfl
   refine hK.out _ _ ⟨((cell_far (p := ⟨gb270, _, none⟩) NB269_270.out _).trans (((cell_far (p := ⟨gb270, _, none⟩) NB269_270.out _).trans (((cell_far (p := ⟨gb270, _, none⟩) NB269_270.out _).trans (((cell_far (p := ⟨gb270, _, none⟩) NB269_270.out _).trans (((cell_far (p := ⟨gb270, _, none⟩) NB269_270.out _).trans (((cell_far (p := ⟨gb270, _, none⟩) NB269_270.out _).trans (hHeld.1)))))))))))), ((cell_far (p := ⟨gb270, _, none⟩) NB269_270.out _).trans (((cell_far (p := ⟨gb270, _, none⟩) NB269_270.out _).trans (((cell_far (p := ⟨gb270, _, none⟩) NB269_270.out _).trans (((cell_far (p := ⟨gb270, _, none⟩) NB269_270.out _).trans (((cell_far (p := ⟨gb270, _, none⟩) NB269_270.out _).trans (((cell_far (p := ⟨gb270, _, none⟩) NB269_270.out _).trans (hHeld.2.1)))))))))))), ((cell_far (p := ⟨gb270, _, none⟩) NB269_270.out _).trans (((cell_far (p := ⟨gb270, _, none⟩) NB269_270.out _).trans (((cell_far (p := ⟨gb270, _, none⟩) NB269_270.out _).trans (((cell_far (p := ⟨gb270, _, none⟩) NB269_270.out _).trans (((cell_far (p := ⟨gb270, _, none⟩) NB269_270.out _).trans (((cell_far (p := ⟨gb270, _, none⟩) NB269_270.out _).trans (hHeld.2.2.1)))))))))))), ((cell_far (p := ⟨gb270, _, none⟩) NB269_270.out _).trans (((cell_far (p := ⟨gb270, _, none⟩) NB269_270.out _).trans (((cell_far (p := ⟨gb270, _, none⟩) NB269_270.out _).trans (((cell_far (p := ⟨gb270, _, none⟩) NB269_270.out _).trans (((cell_far (p := ⟨gb270, _, none⟩) NB269_270.out _).trans (((cell_far (p := ⟨gb270, _, none⟩) NB269_270.out _).trans (hHeld.2.2.2.1)))))))))))), ((cell_far (p := ⟨gb270, _, none⟩) NB269_270.out _).trans (((cell_far (p := ⟨gb270, _, none⟩) NB269_270.out _).trans (((cell_far (p := ⟨gb270, _, none⟩) NB269_270.out _).trans (((cell_far (p := ⟨gb270, _, none⟩) NB269_270.out _).trans (((cell_far (p := ⟨gb270, _, none⟩) NB269_270.out _).trans (((cell_far (p := ⟨gb270, _, none⟩) NB269_270.out _).trans (hHeld.2.2.2.2.1)))))))))))), ((cell_far (p := ⟨gb270, _, none⟩) NB269_270.out _).trans (((cell_far (p := ⟨gb270, _, none⟩) NB269_270.out _).trans (((cell_far (p := ⟨gb270, _, none⟩) NB269_270.out _).trans (((cell_far (p := ⟨gb270, _, none⟩) NB269_270.out _).trans (((cell_far (p := ⟨gb270, _, none⟩) NB269_270.out _).trans (((cell_far (p := ⟨gb270, _, none⟩) NB269_270.out _).trans (hHeld.2.2.2.2.2))))))))))))⟩ (fun hHeld => ?_)
   clear hK K
   refine done_ (done_of HT_.out (by kernel_rfl)) ?_
   try go_wp2
   refine bodyPost_ret (results_cell_row rfl _ _ gb270 43 #[.string a0_0, .string a0_1, .int .i64 a0_2, .bool a0_3, .string a0_4, .slice Ao9 y274.length co9] (0, 0) _ rfl (put6_ BK270.out _ _ _ _ _ _) Tryz.underlying43 rfl (by kernel_rfl)) rfl ?_
   exact ⟨_, rfl, by (with_reducible repeat (first | apply Kd.R_alloc  | apply Kd.R_drewN  | apply Kd.R_drew)); exact Kd.R_mono (R_far6 (Kd.R_types HO276.out BK270.out (by decide)) (fun _ hk => hk.2)) (fun _ hk => trivial), by (repeat (with_reducible first | exact HB.out | refine below_set ?_ GE270.out))⟩
 · rw [if_neg c2] at H
   exact absurd H (by simp)
end Go.Proofs.YtmimipgmhgalaaaGreatDoor.PAll
end
