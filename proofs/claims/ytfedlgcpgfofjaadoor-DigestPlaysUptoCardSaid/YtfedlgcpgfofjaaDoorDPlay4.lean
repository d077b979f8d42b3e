/-
  DigestPlays: one step of play: Sum, Size.
-/
import Derived.Test.YtfedlgcpgfofjaaDoorDPlay1
namespace Go.Proofs.YtfedlgcpgfofjaaDoor.Sha
open Go.RowKit Go.Proofs.YtfedlgcpgfofjaaDoorW.PrintWords Go.Proofs.YtfedlgcpgfofjaaDoor.PAll Go.Proofs.YtfedlgcpgfofjaaDoor.Plain
set_option linter.unusedVariables false
set_option linter.unusedSimpArgs false
set_option maxRecDepth 100000 in
set_option maxHeartbeats 4000000 in
theorem play_sum (hh tt : Int) (i j : Nat) (p : List Nat) (B : Option Addr) (n c : Nat) (g : Nat → Nat) (R : Nat → List Nat) (P : Nat → Nat) (A : Nat → List Nat) (V : Nat → Value) (base M : Nat) (w : World) (hi : i < 4) (hj : j < 4)
    (hsi : ∀ W : World, Calls Tryd.prog 56 #[.int .i64 hh] W fun e w' => e = .returned (.int .i64 (i : Int)) ∧ W = w') (hsj : ∀ W : World, Calls Tryd.prog 56 #[.int .i64 tt] W fun e w' => e = .returned (.int .i64 (j : Int)) ∧ W = w')
    (hn : n = p.length) (hnc : n ≤ c) (hnM : M + n ≤ 3000000) (hM : 64 ≤ M) (hpa : All 256 p) (hC : ∀ U : World, Below base w U → C8 U B p.length p) (hbase : base ≤ w.heap.size) (hF : Four w base M g R P A V) (hT : Tabs w) (h2b : 2 < base) :
    Calls Tryd.prog 42 #[.agg #[.int .i64 3, .int .i64 hh, .int .i64 tt, .slice B n c], .agg (hptr g).toArray, .agg (rall R P V).toArray] w (Stepped base (M + n) w g) := by
  have H1 := Lib.hid hsi; have H2 := Lib.hid hsj
  have HN := Lib.hid hn; have HPA := Lib.hid hpa; have HC := Lib.hid hC; have HF := Lib.hid hF; have HT := Lib.hid hT
  clear hsi hsj hn hpa hC hF hT
  go_enter Tryd.func42, Tryd.ntmps42
  go_upto_region 1 with fail
  obtain ⟨w0, hw0⟩ : ∃ W : World, W = (((((w.alloc (.cells #[.int .i64 3, .int .i64 hh, .int .i64 tt, .slice B n c] 64)).alloc (.cells (hptr g).toArray 54)).alloc (.cells (rall R P V).toArray 60)).alloc (.cells z54.toArray 54)).alloc (.cells z60.toArray 60)) := ⟨_, rfl⟩
  change Code.wp _ _ _ _ (((((w.alloc (.cells #[.int .i64 3, .int .i64 hh, .int .i64 tt, .slice B n c] 64)).alloc (.cells (hptr g).toArray 54)).alloc (.cells (rall R P V).toArray 60)).alloc (.cells z54.toArray 54)).alloc (.cells z60.toArray 60))
  rw [← hw0]
  have z0 : w0.heap.size = w.heap.size + 5 := by rw [hw0]; simp
  have BO0 : Blk w0 w.heap.size 64 #[.int .i64 3, .int .i64 hh, .int .i64 tt, .slice B n c] := by rw [hw0]; exact ((((Blk.new w 64 _).alloc _).alloc _).alloc _).alloc _
  have BH0 : Blk w0 (w.heap.size + 1) 54 (hptr g).toArray := by rw [hw0]; exact (((Blk.new_ (w.alloc _) 54 _ _ (by simp)).alloc _).alloc _).alloc _
  have BR0 : Blk w0 (w.heap.size + 1 + 1) 60 (rall R P V).toArray := by rw [hw0]; exact ((Blk.new_ _ 60 _ _ (by simp)).alloc _).alloc _
  have B60 : Blk w0 (w.heap.size + 1 + 1 + 1) 54 z54.toArray := by rw [hw0]; exact (Blk.new_ _ 54 _ _ (by simp)).alloc _
  have B70 : Blk w0 (w.heap.size + 1 + 1 + 1 + 1) 60 z60.toArray := by rw [hw0]; exact Blk.new_ _ 60 _ _ (by simp)
  have hb0 : Below w.heap.size w w0 := by rw [hw0]; exact (((((Below.refl _ _).alloc (Nat.le_refl _) _).alloc (by simp) _).alloc (by simp; omega) _).alloc (by simp; omega) _).alloc (by simp; omega) _
  clear hw0
  have c1 : w0.cell? ⟨w.heap.size, 1, none⟩ = some (.int .i64 hh) := BO0.cell 1
  have c2 : w0.cell? ⟨w.heap.size, 2, none⟩ = some (.int .i64 tt) := BO0.cell 2
  go_quiet ((go_at_call 56; first | exact quiet_left (H1.out _) | exact quiet_left (H2.out _) | exact quiet_add_left (H1.out _) | exact quiet_add_left (H2.out _)))
  obtain ⟨w1, hw1⟩ : ∃ W : World, W = w0.drewN nq := ⟨_, rfl⟩
  rw [← hw1]
  have z1 : w1.heap.size = w.heap.size + 5 := by rw [hw1]; exact z0
  have BO1 : Blk w1 w.heap.size 64 #[.int .i64 3, .int .i64 hh, .int .i64 tt, .slice B n c] := by rw [hw1]; exact BO0.drewN nq
  have BH1 : Blk w1 (w.heap.size + 1) 54 (hptr g).toArray := by rw [hw1]; exact BH0.drewN nq
  have BR1 : Blk w1 (w.heap.size + 1 + 1) 60 (rall R P V).toArray := by rw [hw1]; exact BR0.drewN nq
  have B61 : Blk w1 (w.heap.size + 1 + 1 + 1) 54 z54.toArray := by rw [hw1]; exact B60.drewN nq
  have B71 : Blk w1 (w.heap.size + 1 + 1 + 1 + 1) 60 z60.toArray := by rw [hw1]; exact B70.drewN nq
  have hb1 : Below w.heap.size w w1 := by rw [hw1]; exact below_drewN hb0 nq
  have F1 := HF.out.keep hb1
  have T1 := HT.out.below hb1
  have HFL := Lib.hid F1.lens
  have Z1 := Lib.hid z1
  clear BO0 BH0 BR0 B60 B70 hb0 z0 c1 c2 hw1 z1
  have c0 : w1.cell? ⟨w.heap.size, 0, none⟩ = some (.int .i64 3) := BO1.cell 0
  have i0 : (0 : Int) ≤ (i : Int) := by omega
  have i4 : (i : Int) < 4 := by omega
  have j0 : (0 : Int) ≤ (j : Int) := by omega
  have j4 : (j : Int) < 4 := by omega
  have HRL := Lib.hid (rall_len R P V F1.lens)
  have HRO := Lib.hid (rall_one R P V F1.ones)
  have z1 := Z1.out
  have q1 : w1.cell? ⟨w.heap.size + 1, i, none⟩ = some (.pointer (some ⟨g i, 0, none⟩)) := (BH1.cell i).trans (hptr_at g i hi)
  have p1 := F1.each i hi
  obtain ⟨Ai, ci, hVi, hlei, hCi⟩ := p1.own.arg
  obtain ⟨D, hD⟩ : ∃ D, D = total (R i) (P i) (A i) := ⟨_, rfl⟩
  have hDl : D.length = 32 := by rw [hD]; exact total_len _ _ _ p1.len
  have heq : ∀ U : World, (binOp .eql 24 (.agg (D.map v8).toArray) (.agg (D.map v8).toArray)).run Tryd.prog U = .ok (.bool true) U := fun U => by
    have h := run_eql24 D D hDl hDl U
    rwa [decide_eq_true rfl] at h
  have hmost := p1.most
  have hfew := p1.few
  have hsum : ∀ U : World, Below w1.heap.size w1 U → Calls Tryd.prog 19 #[.pointer (some ⟨g i, 0, none⟩)] U fun e w' => e = .returned (.agg (D.map v8).toArray) ∧ Below U.heap.size U w' := fun U hb => by
    rw [hD]; exact hsum_any (g i) (P i) (R i) (A i) U p1.len p1.reg p1.mod (by omega) (p1.hash.below hb) p1.byte (T1.below hb).1 (by have := (T1.below hb).2.2.2; omega)
  have htot : ∀ U : World, Below w1.heap.size w1 U → Calls Tryd.prog 43 #[.agg (rh (R i) (P i) (V i)).toArray] U fun e w' => e = .returned (.agg (D.map v8).toArray) ∧ Below U.heap.size U w' := fun U hb => by
    rw [hD, hVi]; exact rtotal_any (R i) (A i) (P i) Ai ci U p1.len p1.reg (by omega) p1.byte hfew (hCi.below hb) (T1.below hb).2.1 (T1.below hb).2.2.2
  have HS := Lib.hid hsum; have HTO := Lib.hid htot; have HF1 := Lib.hid F1
  clear hsum htot hD p1 hVi hCi hlei T1 hmost hfew F1
  go_upto_region 17 with fail
  refine wp_region_noPanic ?_
  refine wp_region_held_drew (S := Held3 w.heap.size (w.heap.size + 1) (w.heap.size + 1 + 1) [.int .i64 3, .int .i64 hh, .int .i64 tt, .slice B n c] (hptr g) (rall R P V)) (by kernel_rfl) ?_ (fun hHeld => ?_)
  · exact ⟨BO1, BH1, BR1⟩
  refine wpAnyH_take (i := 0) (oi := ⟨some 79, _, _, _, _, _⟩) (v := _) rfl (by kernel_rfl) (by kernel_rfl) (by kernel_rfl) (fun _ _ _ h => h) (yieldsIf_load_mid (by rfl) 54 _ rfl (w.heap.size + 1) 0 rfl (hptr g) _ (fun wx hSw => blk_range hSw.2.1) Tryd.underlying54 rfl (by kernel_rfl)) hHeld ?_
  try simp only [Act.put, List.setIfInBounds_toArray, List.set_cons_zero, List.set_cons_succ]
  refine wpAnyH_take (i := 1) (oi := ⟨some 80, _, _, _, _, _⟩) (v := _) rfl (by kernel_rfl) (by kernel_rfl) (by kernel_rfl) (fun _ _ _ h => h) (yieldsIf_load_mid (by rfl) 60 _ rfl (w.heap.size + 1 + 1) 0 rfl (rall R P V) _ (fun wx hSw => blk_range hSw.2.2) Tryd.underlying60 rfl (by rw [HRL.out]; kernel_rfl)) hHeld ?_
  try simp only [Act.put, List.setIfInBounds_toArray, List.set_cons_zero, List.set_cons_succ]
  refine wpAnyH_take (i := 2) (oi := ⟨some 81, _, _, _, _, _⟩) (v := ?_) rfl (by kernel_rfl) (by kernel_rfl) (by kernel_rfl) (fun _ _ _ h => h) (Or.inl ⟨by rfl, ?_⟩) hHeld ?_
  rotate_left
  · intro wx hSw
    go_simp
    all_goals (with_reducible rfl)
  try simp only [Act.put, List.setIfInBounds_toArray, List.set_cons_zero, List.set_cons_succ]
  refine wpAnyH_take (i := 3) (oi := ⟨some 82, _, _, _, _, _⟩) (v := ?_) rfl (by kernel_rfl) (by kernel_rfl) (by kernel_rfl) (fun _ _ _ h => h) (Or.inl ⟨by rfl, ?_⟩) hHeld ?_
  rotate_left
  · intro wx hSw
    go_simp
    all_goals (with_reducible rfl)
  try simp only [Act.put, List.setIfInBounds_toArray, List.set_cons_zero, List.set_cons_succ]
  refine wpAnyH_take (i := 4) (oi := ⟨some 83, _, _, _, _, _⟩) (v := ?_) rfl (by kernel_rfl) (by kernel_rfl) (by kernel_rfl) (fun _ _ _ h => h) (Or.inl ⟨by rfl, ?_⟩) hHeld ?_
  rotate_left
  · intro wx hSw
    have hc := (hSw.2.1.cell i).trans (hptr_at g i hi)
    go_simp
    all_goals (with_reducible rfl)
  try simp only [Act.put, List.setIfInBounds_toArray, List.set_cons_zero, List.set_cons_succ]
  refine wpAnyH_take (i := 6) (oi := ⟨some 85, _, _, _, _, _⟩) (v := ?_) rfl (by kernel_rfl) (by kernel_rfl) (by kernel_rfl) (fun _ _ _ h => h) (Or.inl ⟨by rfl, ?_⟩) hHeld ?_
  rotate_left
  · intro wx hSw
    go_simp
    all_goals (with_reducible rfl)
  try simp only [Act.put, List.setIfInBounds_toArray, List.set_cons_zero, List.set_cons_succ]
  refine wpAnyH_take (i := 7) (oi := ⟨some 86, _, _, _, _, _⟩) (v := ?_) rfl (by kernel_rfl) (by kernel_rfl) (by kernel_rfl) (fun _ _ _ h => h) (Or.inl ⟨by rfl, ?_⟩) hHeld ?_
  rotate_left
  · intro wx hSw
    go_simp
    all_goals (with_reducible rfl)
  try simp only [Act.put, List.setIfInBounds_toArray, List.set_cons_zero, List.set_cons_succ]
  refine wpAnyH_take (i := 8) (oi := ⟨some 87, _, _, _, _, _⟩) (v := _) rfl (by kernel_rfl) (by kernel_rfl) (by kernel_rfl) (fun _ _ _ h => h) (yieldsIf_load_mid (by rfl) 58 _ rfl (w.heap.size + 1 + 1) (i * 10) rfl (rh (R i) (P i) (V i)) _ (fun wx hSw => rall_range hSw.2.2 HFL.out hi) Tryd.underlying58 rfl (by rw [rh_len _ _ _ (HFL.out i hi)]; kernel_rfl)) hHeld ?_
  try simp only [Act.put, List.setIfInBounds_toArray, List.set_cons_zero, List.set_cons_succ]
  refine wpAnyH_ready (rs := [5]) (by kernel_rfl) (by simp) ?_
  refine AllReadyH.cons (o := ⟨some 84, _, _, _, _, _⟩) rfl (fun K hK => ?_) AllReadyH.nil
  go_simp
  refine (HS.out _ (by first | exact below_drewN (Below.refl _ _) 1 | exact ⟨rfl, rfl, rfl, Nat.le_refl _, fun _ _ => rfl⟩)).mono ?_
  rintro e w2 ⟨rfl, hb2⟩
  have hb2' : Below w1.heap.size w1 w2 := ⟨hb2.os, hb2.tape, hb2.output, hb2.size, hb2.block⟩
  refine hK.out _ _ (hHeld.below hb2) (fun hHeld => ?_)
  clear hK K
  try simp only [Act.put, List.setIfInBounds_toArray, List.set_cons_zero, List.set_cons_succ]
  refine wpAnyH_ready (rs := [9]) (by kernel_rfl) (by simp) ?_
  refine AllReadyH.cons (o := ⟨some 88, _, _, _, _, _⟩) rfl (fun K hK => ?_) AllReadyH.nil
  go_simp
  refine (HTO.out _ hb2').mono ?_
  rintro e w3 ⟨rfl, hb3⟩
  have hb3' : Below w1.heap.size w1 w3 := hb2'.trans (hb3.mono hb2'.size)
  refine hK.out _ _ (hHeld.below hb3) (fun hHeld => ?_)
  clear hK K
  try simp only [Act.put, List.setIfInBounds_toArray, List.set_cons_zero, List.set_cons_succ]
  refine wpAnyH_take (i := 10) (oi := ⟨some 89, _, _, _, _, _⟩) (v := ?_) rfl (by kernel_rfl) (by kernel_rfl) (by kernel_rfl) (fun _ _ _ h => h) (Or.inl ⟨by rfl, ?_⟩) hHeld ?_
  rotate_left
  · intro wx hSw
    go_simp
    all_goals (with_reducible rfl)
  try simp only [Act.put, List.setIfInBounds_toArray, List.set_cons_zero, List.set_cons_succ]
  have B6E := B61.below hb3' B61.lt
  have B7E := B71.below hb3' B71.lt
  have FE := (HF1.out.keep hb3').more (show M ≤ M + n by omega)
  have hbW : Below w.heap.size w w3 := hb1.trans (hb3'.mono (by omega))
  have hbE : Below base w w3 := hbW.mono hbase
  have HKQ : Hid (∀ q, q < w.heap.size → (∀ k, k < 4 → g k ≠ q) → w3.heap[q]? = w.heap[q]?) := fun q h1 _ => (hbW).block q h1
  have HZE : Hid (∀ k, k < 4 → g k ≠ w.heap.size + 1 + 1 + 1 ∧ g k ≠ w.heap.size + 1 + 1 + 1 + 1) := fun k hk => by have := (HF.out.each k hk).hash.lt; omega
  have HZV : Hid (∀ k, k < 4 → ∀ x, (V k).ownBlock = some x → x ≠ w.heap.size + 1 + 1 + 1 ∧ x ≠ w.heap.size + 1 + 1 + 1 + 1) := fun k hk x hx => by have := own_lt (HF.out.each k hk).own x hx; omega
  refine wpAnyH_ready (rs := [11]) (by kernel_rfl) (by simp) ?_
  refine AllReadyH.cons (o := ⟨none, _, _, _, _, _⟩) rfl (fun K hK => ?_) AllReadyH.nil
  refine wpr_if (by rfl) ?_
  refine wpr_store 54 _ _ rfl (w.heap.size + 1 + 1 + 1) 0 rfl 54 [] z54 [] (hptr g) rfl (by rw [List.nil_append, List.append_nil]; exact B6E) rfl rfl (by kernel_rfl) (hptr_one _) ?_
  intro wS6 S6 O6
  refine hK.out _ _ (hHeld.keep (O6.block _ (by omega)) (O6.block _ (by omega)) (O6.block _ (by omega))) (fun hHeld => ?_)
  clear hK K
  try simp only [Act.put, List.setIfInBounds_toArray, List.set_cons_zero, List.set_cons_succ]
  refine wpAnyH_ready (rs := [12]) (by kernel_rfl) (by simp) ?_
  refine AllReadyH.cons (o := ⟨none, _, _, _, _, _⟩) rfl (fun K hK => ?_) AllReadyH.nil
  refine wpr_if (by rfl) ?_
  refine wpr_store 60 _ _ rfl (w.heap.size + 1 + 1 + 1 + 1) 0 rfl 60 [] z60 [] (rall R P V) rfl (by rw [List.nil_append, List.append_nil]; exact ((B7E : Blk _ _ 60 z60.toArray)).only O6 (show (w.heap.size + 1 + 1 + 1 + 1) ≠ (w.heap.size + 1 + 1 + 1) by omega)) rfl (by rw [HRL.out]; rfl) (by rw [HRL.out]; kernel_rfl) HRO.out ?_
  intro wS7 S7 O7
  refine hK.out _ _ (hHeld.keep (O7.block _ (by omega)) (O7.block _ (by omega)) (O7.block _ (by omega))) (fun hHeld => ?_)
  clear hK K
  try simp only [Act.put, List.setIfInBounds_toArray, List.set_cons_zero, List.set_cons_succ]
  refine wpAnyH_take (i := 13) (oi := ⟨some 8, _, _, _, _, _⟩) (v := ?_) rfl (by kernel_rfl) (by kernel_rfl) (by kernel_rfl) (fun _ _ _ h => h) (Or.inl ⟨by rfl, ?_⟩) hHeld ?_
  rotate_left
  · intro wx hSw
    go_simp
    all_goals (with_reducible rfl)
  try simp only [Act.put, List.setIfInBounds_toArray, List.set_cons_zero, List.set_cons_succ]
  refine wpAnyH_done (by kernel_rfl) ?_ _
  refine NoPanic.normal ?_
  go_wp2
  rw [List.nil_append, List.append_nil] at S6 S7
  have S6' := S6.only O7 (by omega)
  obtain ⟨FS, hbS⟩ := stepped_of FE hbE O6 O7 (by omega) (by omega) HZE.out HZV.out HKQ.out (by omega) (by omega)
  exact bodyPost_ret (results_list (rs := [.cell 6 54, .cell 7 60, .tmp 8]) rfl (by simp) (.cell (w.heap.size + 1 + 1 + 1) 54 (hptr g).toArray (0, 0) _ rfl S6' Tryd.underlying54 rfl (by kernel_rfl) (.cell (w.heap.size + 1 + 1 + 1 + 1) 60 (rall R P V).toArray (0, 0) _ rfl S7 Tryd.underlying60 rfl (by rw [List.size_toArray, HRL.out]; kernel_rfl) (.tmp .nil)))) rfl ⟨_, _, _, _, _, rfl, FS, hbS.1, hbS.2⟩
set_option maxRecDepth 100000 in
set_option maxHeartbeats 4000000 in
theorem play_size (hh tt : Int) (i j : Nat) (p : List Nat) (B : Option Addr) (n c : Nat) (g : Nat → Nat) (R : Nat → List Nat) (P : Nat → Nat) (A : Nat → List Nat) (V : Nat → Value) (base M : Nat) (w : World) (hi : i < 4) (hj : j < 4)
    (hsi : ∀ W : World, Calls Tryd.prog 56 #[.int .i64 hh] W fun e w' => e = .returned (.int .i64 (i : Int)) ∧ W = w') (hsj : ∀ W : World, Calls Tryd.prog 56 #[.int .i64 tt] W fun e w' => e = .returned (.int .i64 (j : Int)) ∧ W = w')
    (hn : n = p.length) (hnc : n ≤ c) (hnM : M + n ≤ 3000000) (hM : 64 ≤ M) (hpa : All 256 p) (hC : ∀ U : World, Below base w U → C8 U B p.length p) (hbase : base ≤ w.heap.size) (hF : Four w base M g R P A V) (hT : Tabs w) (h2b : 2 < base) :
    Calls Tryd.prog 42 #[.agg #[.int .i64 4, .int .i64 hh, .int .i64 tt, .slice B n c], .agg (hptr g).toArray, .agg (rall R P V).toArray] w (Stepped base (M + n) w g) := by
  have H1 := Lib.hid hsi; have H2 := Lib.hid hsj
  have HN := Lib.hid hn; have HPA := Lib.hid hpa; have HC := Lib.hid hC; have HF := Lib.hid hF; have HT := Lib.hid hT
  clear hsi hsj hn hpa hC hF hT
  go_enter Tryd.func42, Tryd.ntmps42
  go_upto_region 1 with fail
  obtain ⟨w0, hw0⟩ : ∃ W : World, W = (((((w.alloc (.cells #[.int .i64 4, .int .i64 hh, .int .i64 tt, .slice B n c] 64)).alloc (.cells (hptr g).toArray 54)).alloc (.cells (rall R P V).toArray 60)).alloc (.cells z54.toArray 54)).alloc (.cells z60.toArray 60)) := ⟨_, rfl⟩
  change Code.wp _ _ _ _ (((((w.alloc (.cells #[.int .i64 4, .int .i64 hh, .int .i64 tt, .slice B n c] 64)).alloc (.cells (hptr g).toArray 54)).alloc (.cells (rall R P V).toArray 60)).alloc (.cells z54.toArray 54)).alloc (.cells z60.toArray 60))
  rw [← hw0]
  have z0 : w0.heap.size = w.heap.size + 5 := by rw [hw0]; simp
  have BO0 : Blk w0 w.heap.size 64 #[.int .i64 4, .int .i64 hh, .int .i64 tt, .slice B n c] := by rw [hw0]; exact ((((Blk.new w 64 _).alloc _).alloc _).alloc _).alloc _
  have BH0 : Blk w0 (w.heap.size + 1) 54 (hptr g).toArray := by rw [hw0]; exact (((Blk.new_ (w.alloc _) 54 _ _ (by simp)).alloc _).alloc _).alloc _
  have BR0 : Blk w0 (w.heap.size + 1 + 1) 60 (rall R P V).toArray := by rw [hw0]; exact ((Blk.new_ _ 60 _ _ (by simp)).alloc _).alloc _
  have B60 : Blk w0 (w.heap.size + 1 + 1 + 1) 54 z54.toArray := by rw [hw0]; exact (Blk.new_ _ 54 _ _ (by simp)).alloc _
  have B70 : Blk w0 (w.heap.size + 1 + 1 + 1 + 1) 60 z60.toArray := by rw [hw0]; exact Blk.new_ _ 60 _ _ (by simp)
  have hb0 : Below w.heap.size w w0 := by rw [hw0]; exact (((((Below.refl _ _).alloc (Nat.le_refl _) _).alloc (by simp) _).alloc (by simp; omega) _).alloc (by simp; omega) _).alloc (by simp; omega) _
  clear hw0
  have c1 : w0.cell? ⟨w.heap.size, 1, none⟩ = some (.int .i64 hh) := BO0.cell 1
  have c2 : w0.cell? ⟨w.heap.size, 2, none⟩ = some (.int .i64 tt) := BO0.cell 2
  go_quiet ((go_at_call 56; first | exact quiet_left (H1.out _) | exact quiet_left (H2.out _) | exact quiet_add_left (H1.out _) | exact quiet_add_left (H2.out _)))
  obtain ⟨w1, hw1⟩ : ∃ W : World, W = w0.drewN nq := ⟨_, rfl⟩
  rw [← hw1]
  have z1 : w1.heap.size = w.heap.size + 5 := by rw [hw1]; exact z0
  have BO1 : Blk w1 w.heap.size 64 #[.int .i64 4, .int .i64 hh, .int .i64 tt, .slice B n c] := by rw [hw1]; exact BO0.drewN nq
  have BH1 : Blk w1 (w.heap.size + 1) 54 (hptr g).toArray := by rw [hw1]; exact BH0.drewN nq
  have BR1 : Blk w1 (w.heap.size + 1 + 1) 60 (rall R P V).toArray := by rw [hw1]; exact BR0.drewN nq
  have B61 : Blk w1 (w.heap.size + 1 + 1 + 1) 54 z54.toArray := by rw [hw1]; exact B60.drewN nq
  have B71 : Blk w1 (w.heap.size + 1 + 1 + 1 + 1) 60 z60.toArray := by rw [hw1]; exact B70.drewN nq
  have hb1 : Below w.heap.size w w1 := by rw [hw1]; exact below_drewN hb0 nq
  have F1 := HF.out.keep hb1
  have T1 := HT.out.below hb1
  have HFL := Lib.hid F1.lens
  have Z1 := Lib.hid z1
  clear BO0 BH0 BR0 B60 B70 hb0 z0 c1 c2 hw1 z1
  have c0 : w1.cell? ⟨w.heap.size, 0, none⟩ = some (.int .i64 4) := BO1.cell 0
  have i0 : (0 : Int) ≤ (i : Int) := by omega
  have i4 : (i : Int) < 4 := by omega
  have j0 : (0 : Int) ≤ (j : Int) := by omega
  have j4 : (j : Int) < 4 := by omega
  have HRL := Lib.hid (rall_len R P V F1.lens)
  have HRO := Lib.hid (rall_one R P V F1.ones)
  have z1 := Z1.out
  have q1 : w1.cell? ⟨w.heap.size + 1, i, none⟩ = some (.pointer (some ⟨g i, 0, none⟩)) := (BH1.cell i).trans (hptr_at g i hi)
  have p1 := F1.each i hi
  obtain ⟨Ai, ci, hVi, hlei, hCi⟩ := p1.own.arg
  obtain ⟨D, hD⟩ : ∃ D, D = P i + (A i).length := ⟨_, rfl⟩
  have hmost := p1.most
  have hfew := p1.few
  have hsum : ∀ U : World, Below w1.heap.size w1 U → Calls Tryd.prog 20 #[.pointer (some ⟨g i, 0, none⟩)] U fun e w' => e = .returned (.int .i64 (D : Int)) ∧ U = w' := fun U hb => by
    rw [hD]; exact size_any (g i) (P i) (R i) (A i) U p1.len (by omega) (p1.hash.below hb)
  have htot : ∀ U : World, Below w1.heap.size w1 U → Calls Tryd.prog 44 #[.agg (rh (R i) (P i) (V i)).toArray] U fun e w' => e = .returned (.int .i64 (D : Int)) ∧ Below U.heap.size U w' := fun U hb => by
    rw [hD, hVi]; exact rsize_any (R i) (P i) (A i).length ci Ai U p1.len (by omega)
  have HS := Lib.hid hsum; have HTO := Lib.hid htot; have HF1 := Lib.hid F1
  clear hsum htot hD p1 hVi hCi hlei T1 hmost hfew F1
  go_upto_region 19 with fail
  refine wp_region_noPanic ?_
  refine wp_region_held_drew (S := Held3 w.heap.size (w.heap.size + 1) (w.heap.size + 1 + 1) [.int .i64 4, .int .i64 hh, .int .i64 tt, .slice B n c] (hptr g) (rall R P V)) (by kernel_rfl) ?_ (fun hHeld => ?_)
  · exact ⟨BO1, BH1, BR1⟩
  refine wpAnyH_take (i := 0) (oi := ⟨some 92, _, _, _, _, _⟩) (v := _) rfl (by kernel_rfl) (by kernel_rfl) (by kernel_rfl) (fun _ _ _ h => h) (yieldsIf_load_mid (by rfl) 54 _ rfl (w.heap.size + 1) 0 rfl (hptr g) _ (fun wx hSw => blk_range hSw.2.1) Tryd.underlying54 rfl (by kernel_rfl)) hHeld ?_
  try simp only [Act.put, List.setIfInBounds_toArray, List.set_cons_zero, List.set_cons_succ]
  refine wpAnyH_take (i := 1) (oi := ⟨some 93, _, _, _, _, _⟩) (v := _) rfl (by kernel_rfl) (by kernel_rfl) (by kernel_rfl) (fun _ _ _ h => h) (yieldsIf_load_mid (by rfl) 60 _ rfl (w.heap.size + 1 + 1) 0 rfl (rall R P V) _ (fun wx hSw => blk_range hSw.2.2) Tryd.underlying60 rfl (by rw [HRL.out]; kernel_rfl)) hHeld ?_
  try simp only [Act.put, List.setIfInBounds_toArray, List.set_cons_zero, List.set_cons_succ]
  refine wpAnyH_take (i := 2) (oi := ⟨some 94, _, _, _, _, _⟩) (v := ?_) rfl (by kernel_rfl) (by kernel_rfl) (by kernel_rfl) (fun _ _ _ h => h) (Or.inl ⟨by rfl, ?_⟩) hHeld ?_
  rotate_left
  · intro wx hSw
    go_simp
    all_goals (with_reducible rfl)
  try simp only [Act.put, List.setIfInBounds_toArray, List.set_cons_zero, List.set_cons_succ]
  refine wpAnyH_take (i := 3) (oi := ⟨some 95, _, _, _, _, _⟩) (v := ?_) rfl (by kernel_rfl) (by kernel_rfl) (by kernel_rfl) (fun _ _ _ h => h) (Or.inl ⟨by rfl, ?_⟩) hHeld ?_
  rotate_left
  · intro wx hSw
    go_simp
    all_goals (with_reducible rfl)
  try simp only [Act.put, List.setIfInBounds_toArray, List.set_cons_zero, List.set_cons_succ]
  refine wpAnyH_take (i := 4) (oi := ⟨some 96, _, _, _, _, _⟩) (v := ?_) rfl (by kernel_rfl) (by kernel_rfl) (by kernel_rfl) (fun _ _ _ h => h) (Or.inl ⟨by rfl, ?_⟩) hHeld ?_
  rotate_left
  · intro wx hSw
    have hc := (hSw.2.1.cell i).trans (hptr_at g i hi)
    go_simp
    all_goals (with_reducible rfl)
  try simp only [Act.put, List.setIfInBounds_toArray, List.set_cons_zero, List.set_cons_succ]
  refine wpAnyH_take (i := 6) (oi := ⟨some 98, _, _, _, _, _⟩) (v := ?_) rfl (by kernel_rfl) (by kernel_rfl) (by kernel_rfl) (fun _ _ _ h => h) (Or.inl ⟨by rfl, ?_⟩) hHeld ?_
  rotate_left
  · intro wx hSw
    go_simp
    all_goals (with_reducible rfl)
  try simp only [Act.put, List.setIfInBounds_toArray, List.set_cons_zero, List.set_cons_succ]
  refine wpAnyH_take (i := 7) (oi := ⟨some 99, _, _, _, _, _⟩) (v := ?_) rfl (by kernel_rfl) (by kernel_rfl) (by kernel_rfl) (fun _ _ _ h => h) (Or.inl ⟨by rfl, ?_⟩) hHeld ?_
  rotate_left
  · intro wx hSw
    go_simp
    all_goals (with_reducible rfl)
  try simp only [Act.put, List.setIfInBounds_toArray, List.set_cons_zero, List.set_cons_succ]
  refine wpAnyH_take (i := 8) (oi := ⟨some 100, _, _, _, _, _⟩) (v := _) rfl (by kernel_rfl) (by kernel_rfl) (by kernel_rfl) (fun _ _ _ h => h) (yieldsIf_load_mid (by rfl) 58 _ rfl (w.heap.size + 1 + 1) (i * 10) rfl (rh (R i) (P i) (V i)) _ (fun wx hSw => rall_range hSw.2.2 HFL.out hi) Tryd.underlying58 rfl (by rw [rh_len _ _ _ (HFL.out i hi)]; kernel_rfl)) hHeld ?_
  try simp only [Act.put, List.setIfInBounds_toArray, List.set_cons_zero, List.set_cons_succ]
  refine wpAnyH_ready (rs := [5]) (by kernel_rfl) (by simp) ?_
  refine AllReadyH.cons (o := ⟨some 97, _, _, _, _, _⟩) rfl (fun K hK => ?_) AllReadyH.nil
  go_simp
  refine (HS.out _ (by first | exact below_drewN (Below.refl _ _) 1 | exact ⟨rfl, rfl, rfl, Nat.le_refl _, fun _ _ => rfl⟩)).mono ?_
  rintro e w2 ⟨rfl, hw2⟩
  have hb2' : Below w1.heap.size w1 w2 := by rw [← hw2]; exact ⟨rfl, rfl, rfl, Nat.le_refl _, fun _ _ => rfl⟩
  have hh2 := hHeld
  rw [hw2] at hh2
  refine hK.out _ _ hh2 (fun hHeld => ?_)
  clear hK K
  try simp only [Act.put, List.setIfInBounds_toArray, List.set_cons_zero, List.set_cons_succ]
  refine wpAnyH_ready (rs := [9]) (by kernel_rfl) (by simp) ?_
  refine AllReadyH.cons (o := ⟨some 101, _, _, _, _, _⟩) rfl (fun K hK => ?_) AllReadyH.nil
  go_simp
  refine (HTO.out _ hb2').mono ?_
  rintro e w3 ⟨rfl, hb3⟩
  have hb3' : Below w1.heap.size w1 w3 := hb2'.trans (hb3.mono hb2'.size)
  refine hK.out _ _ (hHeld.below hb3) (fun hHeld => ?_)
  clear hK K
  try simp only [Act.put, List.setIfInBounds_toArray, List.set_cons_zero, List.set_cons_succ]
  refine wpAnyH_take (i := 10) (oi := ⟨some 102, _, _, _, _, _⟩) (v := ?_) rfl (by kernel_rfl) (by kernel_rfl) (by kernel_rfl) (fun _ _ _ h => h) (Or.inl ⟨by rfl, ?_⟩) hHeld ?_
  rotate_left
  · intro wx hSw
    go_simp
    all_goals (with_reducible rfl)
  try simp only [Act.put, List.setIfInBounds_toArray, List.set_cons_zero, List.set_cons_succ]
  have B6E := B61.below hb3' B61.lt
  have B7E := B71.below hb3' B71.lt
  have FE := (HF1.out.keep hb3').more (show M ≤ M + n by omega)
  have hbW : Below w.heap.size w w3 := hb1.trans (hb3'.mono (by omega))
  have hbE : Below base w w3 := hbW.mono hbase
  have HKQ : Hid (∀ q, q < w.heap.size → (∀ k, k < 4 → g k ≠ q) → w3.heap[q]? = w.heap[q]?) := fun q h1 _ => (hbW).block q h1
  have HZE : Hid (∀ k, k < 4 → g k ≠ w.heap.size + 1 + 1 + 1 ∧ g k ≠ w.heap.size + 1 + 1 + 1 + 1) := fun k hk => by have := (HF.out.each k hk).hash.lt; omega
  have HZV : Hid (∀ k, k < 4 → ∀ x, (V k).ownBlock = some x → x ≠ w.heap.size + 1 + 1 + 1 ∧ x ≠ w.heap.size + 1 + 1 + 1 + 1) := fun k hk x hx => by have := own_lt (HF.out.each k hk).own x hx; omega
  refine wpAnyH_ready (rs := [11]) (by kernel_rfl) (by simp) ?_
  refine AllReadyH.cons (o := ⟨none, _, _, _, _, _⟩) rfl (fun K hK => ?_) AllReadyH.nil
  refine wpr_if (by rfl) ?_
  refine wpr_store 54 _ _ rfl (w.heap.size + 1 + 1 + 1) 0 rfl 54 [] z54 [] (hptr g) rfl (by rw [List.nil_append, List.append_nil]; exact B6E) rfl rfl (by kernel_rfl) (hptr_one _) ?_
  intro wS6 S6 O6
  refine hK.out _ _ (hHeld.keep (O6.block _ (by omega)) (O6.block _ (by omega)) (O6.block _ (by omega))) (fun hHeld => ?_)
  clear hK K
  try simp only [Act.put, List.setIfInBounds_toArray, List.set_cons_zero, List.set_cons_succ]
  refine wpAnyH_ready (rs := [12]) (by kernel_rfl) (by simp) ?_
  refine AllReadyH.cons (o := ⟨none, _, _, _, _, _⟩) rfl (fun K hK => ?_) AllReadyH.nil
  refine wpr_if (by rfl) ?_
  refine wpr_store 60 _ _ rfl (w.heap.size + 1 + 1 + 1 + 1) 0 rfl 60 [] z60 [] (rall R P V) rfl (by rw [List.nil_append, List.append_nil]; exact ((B7E : Blk _ _ 60 z60.toArray)).only O6 (show (w.heap.size + 1 + 1 + 1 + 1) ≠ (w.heap.size + 1 + 1 + 1) by omega)) rfl (by rw [HRL.out]; rfl) (by rw [HRL.out]; kernel_rfl) HRO.out ?_
  intro wS7 S7 O7
  refine hK.out _ _ (hHeld.keep (O7.block _ (by omega)) (O7.block _ (by omega)) (O7.block _ (by omega))) (fun hHeld => ?_)
  clear hK K
  try simp only [Act.put, List.setIfInBounds_toArray, List.set_cons_zero, List.set_cons_succ]
  refine wpAnyH_take (i := 13) (oi := ⟨some 8, _, _, _, _, _⟩) (v := ?_) rfl (by kernel_rfl) (by kernel_rfl) (by kernel_rfl) (fun _ _ _ h => h) (Or.inl ⟨by rfl, ?_⟩) hHeld ?_
  rotate_left
  · intro wx hSw
    go_simp
    all_goals (with_reducible rfl)
  try simp only [Act.put, List.setIfInBounds_toArray, List.set_cons_zero, List.set_cons_succ]
  refine wpAnyH_done (by kernel_rfl) ?_ _
  refine NoPanic.normal ?_
  go_wp2
  rw [List.nil_append, List.append_nil] at S6 S7
  have S6' := S6.only O7 (by omega)
  obtain ⟨FS, hbS⟩ := stepped_of FE hbE O6 O7 (by omega) (by omega) HZE.out HZV.out HKQ.out (by omega) (by omega)
  exact bodyPost_ret (results_list (rs := [.cell 6 54, .cell 7 60, .tmp 8]) rfl (by simp) (.cell (w.heap.size + 1 + 1 + 1) 54 (hptr g).toArray (0, 0) _ rfl S6' Tryd.underlying54 rfl (by kernel_rfl) (.cell (w.heap.size + 1 + 1 + 1 + 1) 60 (rall R P V).toArray (0, 0) _ rfl S7 Tryd.underlying60 rfl (by rw [List.size_toArray, HRL.out]; kernel_rfl) (.tmp .nil)))) rfl ⟨_, _, _, _, _, rfl, FS, hbS.1, hbS.2⟩
end Go.Proofs.YtfedlgcpgfofjaaDoor.Sha
