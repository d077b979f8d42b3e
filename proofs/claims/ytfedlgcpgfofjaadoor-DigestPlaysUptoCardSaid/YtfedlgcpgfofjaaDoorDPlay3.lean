/-
  DigestPlays: one step of play: Copy, and what is no act.
-/
import Derived.Test.YtfedlgcpgfofjaaDoorDPlay1
namespace Go.Proofs.YtfedlgcpgfofjaaDoor.Sha
open Go.RowKit Go.Proofs.YtfedlgcpgfofjaaDoorW.PrintWords Go.Proofs.YtfedlgcpgfofjaaDoor.PAll Go.Proofs.YtfedlgcpgfofjaaDoor.Plain
set_option linter.unusedVariables false
set_option linter.unusedSimpArgs false
set_option maxRecDepth 100000 in
set_option maxHeartbeats 4000000 in
theorem play_copy (hh tt : Int) (i j : Nat) (p : List Nat) (B : Option Addr) (n c : Nat) (g : Nat → Nat) (R : Nat → List Nat) (P : Nat → Nat) (A : Nat → List Nat) (V : Nat → Value) (base M : Nat) (w : World) (hi : i < 4) (hj : j < 4)
    (hsi : ∀ W : World, Calls Tryd.prog 56 #[.int .i64 hh] W fun e w' => e = .returned (.int .i64 (i : Int)) ∧ W = w') (hsj : ∀ W : World, Calls Tryd.prog 56 #[.int .i64 tt] W fun e w' => e = .returned (.int .i64 (j : Int)) ∧ W = w')
    (hn : n = p.length) (hnc : n ≤ c) (hnM : M + n ≤ 3000000) (hM : 64 ≤ M) (hpa : All 256 p) (hC : ∀ U : World, Below base w U → C8 U B p.length p) (hbase : base ≤ w.heap.size) (hF : Four w base M g R P A V) (hT : Tabs w) (h2b : 2 < base) :
    Calls Tryd.prog 42 #[.agg #[.int .i64 5, .int .i64 hh, .int .i64 tt, .slice B n c], .agg (hptr g).toArray, .agg (rall R P V).toArray] w (Stepped base (M + n) w g) := by
  have H1 := Lib.hid hsi; have H2 := Lib.hid hsj
  have HN := Lib.hid hn; have HPA := Lib.hid hpa; have HC := Lib.hid hC; have HF := Lib.hid hF; have HT := Lib.hid hT
  clear hsi hsj hn hpa hC hF hT
  go_enter Tryd.func42, Tryd.ntmps42
  go_upto_region 1 with fail
  obtain ⟨w0, hw0⟩ : ∃ W : World, W = (((((w.alloc (.cells #[.int .i64 5, .int .i64 hh, .int .i64 tt, .slice B n c] 64)).alloc (.cells (hptr g).toArray 54)).alloc (.cells (rall R P V).toArray 60)).alloc (.cells z54.toArray 54)).alloc (.cells z60.toArray 60)) := ⟨_, rfl⟩
  change Code.wp _ _ _ _ (((((w.alloc (.cells #[.int .i64 5, .int .i64 hh, .int .i64 tt, .slice B n c] 64)).alloc (.cells (hptr g).toArray 54)).alloc (.cells (rall R P V).toArray 60)).alloc (.cells z54.toArray 54)).alloc (.cells z60.toArray 60))
  rw [← hw0]
  have z0 : w0.heap.size = w.heap.size + 5 := by rw [hw0]; simp
  have BO0 : Blk w0 w.heap.size 64 #[.int .i64 5, .int .i64 hh, .int .i64 tt, .slice B n c] := by rw [hw0]; exact ((((Blk.new w 64 _).alloc _).alloc _).alloc _).alloc _
  have BH0 : Blk w0 (w.heap.size + 1) 54 (hptr g).toArray := by rw [hw0]; exact (((Blk.new_ (w.alloc _) 54 _ _ (by simp)).alloc _).alloc _).alloc _
  have BR0 : Blk w0 (w.heap.size + 1 + 1) 60 (rall R P V).toArray := by rw [hw0]; exact ((Blk.new_ _ 60 _ _ (by simp)).alloc _).alloc _
  have B60 : Blk w0 (w.heap.size + 1 + 1 + 1) 54 z54.toArray := by rw [hw0]; exact (Blk.new_ _ 54 _ _ (by simp)).alloc _
  have B70 : Blk w0 (w.heap.size + 1 + 1 + 1 + 1) 60 z60.toArray := by rw [hw0]; exact Blk.new_ _ 60 _ _ (by simp)
  have hb0 : Below w.heap.size w w0 := by rw [hw0]; exact (((((Below.refl _ _).alloc (Nat.le_refl _) _).alloc (by simp) _).alloc (by simp; omega) _).alloc (by simp; omega) _).alloc (by simp; omega) _
  clear hw0
  have c1 : w0.cell? ⟨w.heap.size, 1, none⟩ = some (.int .i64 hh) := BO0.cell 1
  have c2 : w0.cell? ⟨w.heap.size, 2, none⟩ = some (.int .i64 tt) := BO0.cell 2
  go_quiet ((go_at_call 56; first | exact quiet_left (H1.out _) | exact quiet_left (H2.out _) | exact quiet_add_left (H1.out _) | exact quiet_add_left (H2.out _)))
  obtain ⟨w1, hw1⟩ : ∃ W : World, W = w0.drewN nq := ⟨_, rfl⟩
  rw [← hw1]
  have z1 : w1.heap.size = w.heap.size + 5 := by rw [hw1]; exact z0
  have BO1 : Blk w1 w.heap.size 64 #[.int .i64 5, .int .i64 hh, .int .i64 tt, .slice B n c] := by rw [hw1]; exact BO0.drewN nq
  have BH1 : Blk w1 (w.heap.size + 1) 54 (hptr g).toArray := by rw [hw1]; exact BH0.drewN nq
  have BR1 : Blk w1 (w.heap.size + 1 + 1) 60 (rall R P V).toArray := by rw [hw1]; exact BR0.drewN nq
  have B61 : Blk w1 (w.heap.size + 1 + 1 + 1) 54 z54.toArray := by rw [hw1]; exact B60.drewN nq
  have B71 : Blk w1 (w.heap.size + 1 + 1 + 1 + 1) 60 z60.toArray := by rw [hw1]; exact B70.drewN nq
  have hb1 : Below w.heap.size w w1 := by rw [hw1]; exact below_drewN hb0 nq
  have F1 := HF.out.keep hb1
  have T1 := HT.out.below hb1
  have HFL := Lib.hid F1.lens
  have Z1 := Lib.hid z1
  clear BO0 BH0 BR0 B60 B70 hb0 z0 c1 c2 hw1 z1
  have c0 : w1.cell? ⟨w.heap.size, 0, none⟩ = some (.int .i64 5) := BO1.cell 0
  have i0 : (0 : Int) ≤ (i : Int) := by omega
  have i4 : (i : Int) < 4 := by omega
  have j0 : (0 : Int) ≤ (j : Int) := by omega
  have j4 : (j : Int) < 4 := by omega
  have N1 := (F1.each i hi).hash
  have l1 := (F1.each i hi).len
  have q1 : w1.cell? ⟨w.heap.size + 1, i, none⟩ = some (.pointer (some ⟨g i, 0, none⟩)) := (BH1.cell i).trans (hptr_at g i hi)
  go_upto_region 44 with (first
    | (go_at_call 21; (with_reducible refine (copy_any (g i) (P i) (R i) (A i) _ l1 N1).mono ?_); rintro e w2 ⟨rfl, N2, hb2⟩
       have BH2 := BH1.below hb2 BH1.lt
       have f2 := BH2.frozen j
       have q2 : w2.cell? ⟨w.heap.size + 1, j, none⟩ = some (.pointer (some ⟨g j, 0, none⟩)) := (BH2.cell j).trans (hptr_at g j hj)
       have z2 : w1.heap.size < w2.heap.size := N2.lt
       have BR3 : Blk (w2.setCell ⟨w.heap.size + 1, j, none⟩ (.pointer (some ⟨w1.heap.size, 0, none⟩))) (w.heap.size + 1 + 1) 60 (rall R P V).toArray := (BR1.below hb2 BR1.lt).far (p := ⟨w.heap.size + 1, j, none⟩) (by show w.heap.size + 1 + 1 ≠ w.heap.size + 1; omega) _
       have HBR3 := Lib.hid BR3
       rw [rall_mid R P V i hi] at BR3
       have HBRi := Lib.hid BR3
       have BR3j := HBR3.out
       rw [rall_mid R P V j hj] at BR3j
       have HBRj := Lib.hid BR3j
       have HBH2 := Lib.hid BH2
       clear BH2 BR3 BR3j N1 q1)
    | (refine wpl_load rfl 58 _ rfl (w.heap.size + 1 + 1) (i * 10) rfl 60 (rpre R P V i) (rh (R i) (P i) (V i)) (rpost R P V i) HBRi.out (rpre_len R P V HFL.out i hi) _ Tryd.underlying58 rfl (by rw [rh_len _ _ _ (HFL.out i hi)]; kernel_rfl) ?_)
    | (refine wpl_store rfl 58 _ _ rfl (w.heap.size + 1 + 1) (j * 10) rfl 60 (rpre R P V j) (rh (R j) (P j) (V j)) (rpost R P V j) (rh (R i) (P i) (V i)) rfl HBRj.out (rpre_len R P V HFL.out j hj) (by rw [rh_len _ _ _ (HFL.out i hi), rh_len _ _ _ (HFL.out j hj)]) (by rw [rh_len _ _ _ (HFL.out i hi)]; kernel_rfl) (rh_one _ _ _ (HF.out.ones i hi)) ?_
       intro w5 S5 O5
       rw [rall_upd R P V j hj] at S5))
  obtain ⟨w3, hw3⟩ : ∃ W : World, W = w2.setCell ⟨w.heap.size + 1, j, none⟩ (.pointer (some ⟨w1.heap.size, 0, none⟩)) := ⟨_, rfl⟩
  rw [← hw3] at O5
  have z1 := Z1.out
  have e3 : w3.heap.size = w2.heap.size := by rw [hw3]; simp [World.setCell]
  have hb3 : Below w.heap.size w w3 := by rw [hw3]; exact (hb1.trans (hb2.mono (by omega))).setCell (by show w.heap.size ≤ w.heap.size + 1; omega) _
  have hbE : Below w.heap.size w w5 := O5.below hb3 (by omega)
  have BH3 : Blk w3 (w.heap.size + 1) 54 (hptr (upd g j w1.heap.size)).toArray := by
    have h := HBH2.out.set_ j (.pointer (some ⟨w1.heap.size, 0, none⟩))
    rw [hptr_set g j _ hj] at h
    rw [hw3]
    exact h
  have far : ∀ {q t : Nat} {cs : Array Value}, Blk w1 q t cs → q ≠ w.heap.size + 1 → q ≠ w.heap.size + 1 + 1 → Blk w5 q t cs := fun {q t cs} h h1 h2 =>
    Blk.only (by rw [hw3]; exact (h.below hb2 h.lt).far (p := ⟨w.heap.size + 1, j, none⟩) h1 _) O5 h2
  have BOE := far BO1 (by omega) (by omega)
  have B6E := far B61 (by omega) (by omega)
  have B7E := far B71 (by omega) (by omega)
  have BHE : Blk w5 (w.heap.size + 1) 54 (hptr (upd g j w1.heap.size)).toArray := BH3.only O5 (by omega)
  have BRE := S5
  have N5 : HashAt w5 w1.heap.size (R i) (P i) (A i) := by
    refine HashAt.keep (w := w2) N2 ((O5.block _ (by omega)).trans ?_)
    rw [hw3]
    exact Below.heap_setCell w2 ⟨w.heap.size + 1, j, none⟩ _ _ (by show w1.heap.size ≠ w.heap.size + 1; omega)
  have hpi := ((HF.out.each i hi).below hbE).more (show M ≤ M + n by omega)
  have FE : Four w5 base (M + n) (upd g j w1.heap.size) (upd R j (R i)) (upd P j (P i)) (upd A j (A i)) (upd V j (V i)) :=
    HF.out.set_ (by omega) j hj ⟨by omega, N5, hpi.len, hpi.reg, hpi.mod, hpi.few, hpi.most, hpi.byte, hpi.own⟩ (fun k hk hne => ((HF.out.each k hk).below hbE).more (by omega)) (fun k hk hne => by have := (HF.out.each k hk).hash.lt; omega)
  have HZE : Hid (∀ k, k < 4 → upd g j w1.heap.size k ≠ w.heap.size + 1 + 1 + 1 ∧ upd g j w1.heap.size k ≠ w.heap.size + 1 + 1 + 1 + 1) := fun k hk => by
    by_cases e : k = j
    · subst e; rw [upd_self]; omega
    · rw [upd_ne _ _ _ _ e]; have := (HF.out.each k hk).hash.lt; omega
  have HZV : Hid (∀ k, k < 4 → ∀ x, (upd V j (V i) k).ownBlock = some x → x ≠ w.heap.size + 1 + 1 + 1 ∧ x ≠ w.heap.size + 1 + 1 + 1 + 1) := fun k hk x hx => by
    by_cases e : k = j
    · subst e; rw [upd_self] at hx; have := own_lt (HF.out.each i hi).own x hx; omega
    · rw [upd_ne _ _ _ _ e] at hx; have := own_lt (HF.out.each k hk).own x hx; omega
  have HKQ : Hid (∀ q, q < w.heap.size → (∀ k, k < 4 → g k ≠ q) → w5.heap[q]? = w.heap[q]?) := fun q h1 _ => (hbE).block q h1
  have HRL := Lib.hid (rall_len (upd R j (R i)) (upd P j (P i)) (upd V j (V i)) (FE).lens)
  have HRO := Lib.hid (rall_one (upd R j (R i)) (upd P j (P i)) (upd V j (V i)) (FE).ones)
  have HFE := Lib.hid FE
  have HBE := Lib.hid (hbE.mono hbase)
  refine wp_region_noPanic ?_
  refine wp_region_held_drew (S := Held3 w.heap.size (w.heap.size + 1) (w.heap.size + 1 + 1) [.int .i64 5, .int .i64 hh, .int .i64 tt, .slice B n c] (hptr (upd g j w1.heap.size)) (rall (upd R j (R i)) (upd P j (P i)) (upd V j (V i)))) (by kernel_rfl) ?_ (fun hHeld => ?_)
  · exact ⟨BOE, BHE, BRE⟩
  refine wpAnyH_take (i := 0) (oi := ⟨some 210, _, _, _, _, _⟩) (v := _) rfl (by kernel_rfl) (by kernel_rfl) (by kernel_rfl) (fun _ _ _ h => h) (yieldsIf_load_mid (by rfl) 54 _ rfl (w.heap.size + 1) 0 rfl (hptr (upd g j w1.heap.size)) _ (fun wx hSw => blk_range hSw.2.1) Tryd.underlying54 rfl (by kernel_rfl)) hHeld ?_
  try simp only [Act.put, List.setIfInBounds_toArray, List.set_cons_zero, List.set_cons_succ]
  refine wpAnyH_take (i := 1) (oi := ⟨some 211, _, _, _, _, _⟩) (v := _) rfl (by kernel_rfl) (by kernel_rfl) (by kernel_rfl) (fun _ _ _ h => h) (yieldsIf_load_mid (by rfl) 60 _ rfl (w.heap.size + 1 + 1) 0 rfl (rall (upd R j (R i)) (upd P j (P i)) (upd V j (V i))) _ (fun wx hSw => blk_range hSw.2.2) Tryd.underlying60 rfl (by rw [HRL.out]; kernel_rfl)) hHeld ?_
  try simp only [Act.put, List.setIfInBounds_toArray, List.set_cons_zero, List.set_cons_succ]
  refine wpAnyH_ready (rs := [2]) (by kernel_rfl) (by simp) ?_
  refine AllReadyH.cons (o := ⟨none, _, _, _, _, _⟩) rfl (fun K hK => ?_) AllReadyH.nil
  refine wpr_if (by rfl) ?_
  refine wpr_store 54 _ _ rfl (w.heap.size + 1 + 1 + 1) 0 rfl 54 [] z54 [] (hptr (upd g j w1.heap.size)) rfl (by rw [List.nil_append, List.append_nil]; exact B6E) rfl rfl (by kernel_rfl) (hptr_one _) ?_
  intro wS6 S6 O6
  refine hK.out _ _ (hHeld.keep (O6.block _ (by omega)) (O6.block _ (by omega)) (O6.block _ (by omega))) (fun hHeld => ?_)
  clear hK K
  try simp only [Act.put, List.setIfInBounds_toArray, List.set_cons_zero, List.set_cons_succ]
  refine wpAnyH_ready (rs := [3]) (by kernel_rfl) (by simp) ?_
  refine AllReadyH.cons (o := ⟨none, _, _, _, _, _⟩) rfl (fun K hK => ?_) AllReadyH.nil
  refine wpr_if (by rfl) ?_
  refine wpr_store 60 _ _ rfl (w.heap.size + 1 + 1 + 1 + 1) 0 rfl 60 [] z60 [] (rall (upd R j (R i)) (upd P j (P i)) (upd V j (V i))) rfl (by rw [List.nil_append, List.append_nil]; exact (Blk.drew (B7E : Blk _ _ 60 z60.toArray)).only O6 (show (w.heap.size + 1 + 1 + 1 + 1) ≠ (w.heap.size + 1 + 1 + 1) by omega)) rfl (by rw [HRL.out]; rfl) (by rw [HRL.out]; kernel_rfl) HRO.out ?_
  intro wS7 S7 O7
  refine hK.out _ _ (hHeld.keep (O7.block _ (by omega)) (O7.block _ (by omega)) (O7.block _ (by omega))) (fun hHeld => ?_)
  clear hK K
  try simp only [Act.put, List.setIfInBounds_toArray, List.set_cons_zero, List.set_cons_succ]
  refine wpAnyH_take (i := 4) (oi := ⟨some 8, _, _, _, _, _⟩) (v := ?_) rfl (by kernel_rfl) (by kernel_rfl) (by kernel_rfl) (fun _ _ _ h => h) (Or.inl ⟨by rfl, ?_⟩) hHeld ?_
  rotate_left
  · intro wx hSw
    go_simp
    all_goals (with_reducible rfl)
  try simp only [Act.put, List.setIfInBounds_toArray, List.set_cons_zero, List.set_cons_succ]
  refine wpAnyH_done (by kernel_rfl) ?_ _
  refine NoPanic.normal ?_
  go_wp2
  rw [List.nil_append, List.append_nil] at S6 S7
  have S6' := S6.only O7 (by omega)
  obtain ⟨FS, hbS⟩ := stepped_of HFE.out.drew (show Below base w w5.drew from ⟨HBE.out.os, HBE.out.tape, HBE.out.output, HBE.out.size, HBE.out.block⟩) O6 O7 (by omega) (by omega) HZE.out HZV.out HKQ.out (by omega) (by omega)
  exact bodyPost_ret (results_list (rs := [.cell 6 54, .cell 7 60, .tmp 8]) rfl (by simp) (.cell (w.heap.size + 1 + 1 + 1) 54 (hptr (upd g j w1.heap.size)).toArray (0, 0) _ rfl S6' Tryd.underlying54 rfl (by kernel_rfl) (.cell (w.heap.size + 1 + 1 + 1 + 1) 60 (rall (upd R j (R i)) (upd P j (P i)) (upd V j (V i))).toArray (0, 0) _ rfl S7 Tryd.underlying60 rfl (by rw [List.size_toArray, HRL.out]; kernel_rfl) (.tmp .nil)))) rfl ⟨_, _, _, _, _, rfl, FS, hbS.1, hbS.2⟩
set_option maxRecDepth 100000 in
set_option maxHeartbeats 4000000 in
theorem play_other (kind : Int) (hkind : kind < 1 ∨ 8 < kind) (hh tt : Int) (i j : Nat) (p : List Nat) (B : Option Addr) (n c : Nat) (g : Nat → Nat) (R : Nat → List Nat) (P : Nat → Nat) (A : Nat → List Nat) (V : Nat → Value) (base M : Nat) (w : World) (hi : i < 4) (hj : j < 4)
    (hsi : ∀ W : World, Calls Tryd.prog 56 #[.int .i64 hh] W fun e w' => e = .returned (.int .i64 (i : Int)) ∧ W = w') (hsj : ∀ W : World, Calls Tryd.prog 56 #[.int .i64 tt] W fun e w' => e = .returned (.int .i64 (j : Int)) ∧ W = w')
    (hn : n = p.length) (hnc : n ≤ c) (hnM : M + n ≤ 3000000) (hM : 64 ≤ M) (hpa : All 256 p) (hC : ∀ U : World, Below base w U → C8 U B p.length p) (hbase : base ≤ w.heap.size) (hF : Four w base M g R P A V) (hT : Tabs w) (h2b : 2 < base) :
    Calls Tryd.prog 42 #[.agg #[.int .i64 kind, .int .i64 hh, .int .i64 tt, .slice B n c], .agg (hptr g).toArray, .agg (rall R P V).toArray] w (Stepped base (M + n) w g) := by
  have kd1 : ¬ (kind = 1) := by omega
  have kd2 : ¬ (kind = 2) := by omega
  have kd3 : ¬ (kind = 3) := by omega
  have kd4 : ¬ (kind = 4) := by omega
  have kd5 : ¬ (kind = 5) := by omega
  have kd6 : ¬ (kind = 6) := by omega
  have kd7 : ¬ (kind = 7) := by omega
  have kd8 : ¬ (kind = 8) := by omega
  clear hkind
  have H1 := Lib.hid hsi; have H2 := Lib.hid hsj
  have HN := Lib.hid hn; have HPA := Lib.hid hpa; have HC := Lib.hid hC; have HF := Lib.hid hF; have HT := Lib.hid hT
  clear hsi hsj hn hpa hC hF hT
  go_enter Tryd.func42, Tryd.ntmps42
  go_upto_region 1 with fail
  obtain ⟨w0, hw0⟩ : ∃ W : World, W = (((((w.alloc (.cells #[.int .i64 kind, .int .i64 hh, .int .i64 tt, .slice B n c] 64)).alloc (.cells (hptr g).toArray 54)).alloc (.cells (rall R P V).toArray 60)).alloc (.cells z54.toArray 54)).alloc (.cells z60.toArray 60)) := ⟨_, rfl⟩
  change Code.wp _ _ _ _ (((((w.alloc (.cells #[.int .i64 kind, .int .i64 hh, .int .i64 tt, .slice B n c] 64)).alloc (.cells (hptr g).toArray 54)).alloc (.cells (rall R P V).toArray 60)).alloc (.cells z54.toArray 54)).alloc (.cells z60.toArray 60))
  rw [← hw0]
  have z0 : w0.heap.size = w.heap.size + 5 := by rw [hw0]; simp
  have BO0 : Blk w0 w.heap.size 64 #[.int .i64 kind, .int .i64 hh, .int .i64 tt, .slice B n c] := by rw [hw0]; exact ((((Blk.new w 64 _).alloc _).alloc _).alloc _).alloc _
  have BH0 : Blk w0 (w.heap.size + 1) 54 (hptr g).toArray := by rw [hw0]; exact (((Blk.new_ (w.alloc _) 54 _ _ (by simp)).alloc _).alloc _).alloc _
  have BR0 : Blk w0 (w.heap.size + 1 + 1) 60 (rall R P V).toArray := by rw [hw0]; exact ((Blk.new_ _ 60 _ _ (by simp)).alloc _).alloc _
  have B60 : Blk w0 (w.heap.size + 1 + 1 + 1) 54 z54.toArray := by rw [hw0]; exact (Blk.new_ _ 54 _ _ (by simp)).alloc _
  have B70 : Blk w0 (w.heap.size + 1 + 1 + 1 + 1) 60 z60.toArray := by rw [hw0]; exact Blk.new_ _ 60 _ _ (by simp)
  have hb0 : Below w.heap.size w w0 := by rw [hw0]; exact (((((Below.refl _ _).alloc (Nat.le_refl _) _).alloc (by simp) _).alloc (by simp; omega) _).alloc (by simp; omega) _).alloc (by simp; omega) _
  clear hw0
  have c1 : w0.cell? ⟨w.heap.size, 1, none⟩ = some (.int .i64 hh) := BO0.cell 1
  have c2 : w0.cell? ⟨w.heap.size, 2, none⟩ = some (.int .i64 tt) := BO0.cell 2
  go_quiet ((go_at_call 56; first | exact quiet_left (H1.out _) | exact quiet_left (H2.out _) | exact quiet_add_left (H1.out _) | exact quiet_add_left (H2.out _)))
  obtain ⟨w1, hw1⟩ : ∃ W : World, W = w0.drewN nq := ⟨_, rfl⟩
  rw [← hw1]
  have z1 : w1.heap.size = w.heap.size + 5 := by rw [hw1]; exact z0
  have BO1 : Blk w1 w.heap.size 64 #[.int .i64 kind, .int .i64 hh, .int .i64 tt, .slice B n c] := by rw [hw1]; exact BO0.drewN nq
  have BH1 : Blk w1 (w.heap.size + 1) 54 (hptr g).toArray := by rw [hw1]; exact BH0.drewN nq
  have BR1 : Blk w1 (w.heap.size + 1 + 1) 60 (rall R P V).toArray := by rw [hw1]; exact BR0.drewN nq
  have B61 : Blk w1 (w.heap.size + 1 + 1 + 1) 54 z54.toArray := by rw [hw1]; exact B60.drewN nq
  have B71 : Blk w1 (w.heap.size + 1 + 1 + 1 + 1) 60 z60.toArray := by rw [hw1]; exact B70.drewN nq
  have hb1 : Below w.heap.size w w1 := by rw [hw1]; exact below_drewN hb0 nq
  have F1 := HF.out.keep hb1
  have T1 := HT.out.below hb1
  have HFL := Lib.hid F1.lens
  have Z1 := Lib.hid z1
  clear BO0 BH0 BR0 B60 B70 hb0 z0 c1 c2 hw1 z1
  have c0 : w1.cell? ⟨w.heap.size, 0, none⟩ = some (.int .i64 kind) := BO1.cell 0
  have i0 : (0 : Int) ≤ (i : Int) := by omega
  have i4 : (i : Int) < 4 := by omega
  have j0 : (0 : Int) ≤ (j : Int) := by omega
  have j4 : (j : Int) < 4 := by omega
  go_upto_region 44 with fail
  have z1 := Z1.out
  have BOE := BO1
  have BHE := BH1
  have BRE := BR1
  have B6E := B61
  have B7E := B71
  have FE := F1.more (show M ≤ M + n by omega)
  have HZE : Hid (∀ k, k < 4 → g k ≠ w.heap.size + 1 + 1 + 1 ∧ g k ≠ w.heap.size + 1 + 1 + 1 + 1) := fun k hk => by have := (HF.out.each k hk).hash.lt; omega
  have HZV : Hid (∀ k, k < 4 → ∀ x, (V k).ownBlock = some x → x ≠ w.heap.size + 1 + 1 + 1 ∧ x ≠ w.heap.size + 1 + 1 + 1 + 1) := fun k hk x hx => by have := own_lt (HF.out.each k hk).own x hx; omega
  have HKQ : Hid (∀ q, q < w.heap.size → (∀ k, k < 4 → g k ≠ q) → w1.heap[q]? = w.heap[q]?) := fun q h1 _ => (hb1).block q h1
  have HRL := Lib.hid (rall_len R P V (FE).lens)
  have HRO := Lib.hid (rall_one R P V (FE).ones)
  have HFE := Lib.hid FE
  have HBE := Lib.hid (hb1.mono hbase)
  refine wp_region_noPanic ?_
  refine wp_region_held_drew (S := Held3 w.heap.size (w.heap.size + 1) (w.heap.size + 1 + 1) [.int .i64 kind, .int .i64 hh, .int .i64 tt, .slice B n c] (hptr g) (rall R P V)) (by kernel_rfl) ?_ (fun hHeld => ?_)
  · exact ⟨BOE, BHE, BRE⟩
  refine wpAnyH_take (i := 0) (oi := ⟨some 210, _, _, _, _, _⟩) (v := _) rfl (by kernel_rfl) (by kernel_rfl) (by kernel_rfl) (fun _ _ _ h => h) (yieldsIf_load_mid (by rfl) 54 _ rfl (w.heap.size + 1) 0 rfl (hptr g) _ (fun wx hSw => blk_range hSw.2.1) Tryd.underlying54 rfl (by kernel_rfl)) hHeld ?_
  try simp only [Act.put, List.setIfInBounds_toArray, List.set_cons_zero, List.set_cons_succ]
  refine wpAnyH_take (i := 1) (oi := ⟨some 211, _, _, _, _, _⟩) (v := _) rfl (by kernel_rfl) (by kernel_rfl) (by kernel_rfl) (fun _ _ _ h => h) (yieldsIf_load_mid (by rfl) 60 _ rfl (w.heap.size + 1 + 1) 0 rfl (rall R P V) _ (fun wx hSw => blk_range hSw.2.2) Tryd.underlying60 rfl (by rw [HRL.out]; kernel_rfl)) hHeld ?_
  try simp only [Act.put, List.setIfInBounds_toArray, List.set_cons_zero, List.set_cons_succ]
  refine wpAnyH_ready (rs := [2]) (by kernel_rfl) (by simp) ?_
  refine AllReadyH.cons (o := ⟨none, _, _, _, _, _⟩) rfl (fun K hK => ?_) AllReadyH.nil
  refine wpr_if (by rfl) ?_
  refine wpr_store 54 _ _ rfl (w.heap.size + 1 + 1 + 1) 0 rfl 54 [] z54 [] (hptr g) rfl (by rw [List.nil_append, List.append_nil]; exact B6E) rfl rfl (by kernel_rfl) (hptr_one _) ?_
  intro wS6 S6 O6
  refine hK.out _ _ (hHeld.keep (O6.block _ (by omega)) (O6.block _ (by omega)) (O6.block _ (by omega))) (fun hHeld => ?_)
  clear hK K
  try simp only [Act.put, List.setIfInBounds_toArray, List.set_cons_zero, List.set_cons_succ]
  refine wpAnyH_ready (rs := [3]) (by kernel_rfl) (by simp) ?_
  refine AllReadyH.cons (o := ⟨none, _, _, _, _, _⟩) rfl (fun K hK => ?_) AllReadyH.nil
  refine wpr_if (by rfl) ?_
  refine wpr_store 60 _ _ rfl (w.heap.size + 1 + 1 + 1 + 1) 0 rfl 60 [] z60 [] (rall R P V) rfl (by rw [List.nil_append, List.append_nil]; exact (Blk.drew (B7E : Blk _ _ 60 z60.toArray)).only O6 (show (w.heap.size + 1 + 1 + 1 + 1) ≠ (w.heap.size + 1 + 1 + 1) by omega)) rfl (by rw [HRL.out]; rfl) (by rw [HRL.out]; kernel_rfl) HRO.out ?_
  intro wS7 S7 O7
  refine hK.out _ _ (hHeld.keep (O7.block _ (by omega)) (O7.block _ (by omega)) (O7.block _ (by omega))) (fun hHeld => ?_)
  clear hK K
  try simp only [Act.put, List.setIfInBounds_toArray, List.set_cons_zero, List.set_cons_succ]
  refine wpAnyH_take (i := 4) (oi := ⟨some 8, _, _, _, _, _⟩) (v := ?_) rfl (by kernel_rfl) (by kernel_rfl) (by kernel_rfl) (fun _ _ _ h => h) (Or.inl ⟨by rfl, ?_⟩) hHeld ?_
  rotate_left
  · intro wx hSw
    go_simp
    all_goals (with_reducible rfl)
  try simp only [Act.put, List.setIfInBounds_toArray, List.set_cons_zero, List.set_cons_succ]
  refine wpAnyH_done (by kernel_rfl) ?_ _
  refine NoPanic.normal ?_
  go_wp2
  rw [List.nil_append, List.append_nil] at S6 S7
  have S6' := S6.only O7 (by omega)
  obtain ⟨FS, hbS⟩ := stepped_of HFE.out.drew (show Below base w w1.drew from ⟨HBE.out.os, HBE.out.tape, HBE.out.output, HBE.out.size, HBE.out.block⟩) O6 O7 (by omega) (by omega) HZE.out HZV.out HKQ.out (by omega) (by omega)
  exact bodyPost_ret (results_list (rs := [.cell 6 54, .cell 7 60, .tmp 8]) rfl (by simp) (.cell (w.heap.size + 1 + 1 + 1) 54 (hptr g).toArray (0, 0) _ rfl S6' Tryd.underlying54 rfl (by kernel_rfl) (.cell (w.heap.size + 1 + 1 + 1 + 1) 60 (rall R P V).toArray (0, 0) _ rfl S7 Tryd.underlying60 rfl (by rw [List.size_toArray, HRL.out]; kernel_rfl) (.tmp .nil)))) rfl ⟨_, _, _, _, _, rfl, FS, hbS.1, hbS.2⟩
end Go.Proofs.YtfedlgcpgfofjaaDoor.Sha
