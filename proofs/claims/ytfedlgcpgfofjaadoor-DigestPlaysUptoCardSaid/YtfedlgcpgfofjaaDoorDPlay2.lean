/-
  DigestPlays: one step of play: New.
-/
import Derived.Test.YtfedlgcpgfofjaaDoorDPlay1
namespace Go.Proofs.YtfedlgcpgfofjaaDoor.Sha
open Go.RowKit Go.Proofs.YtfedlgcpgfofjaaDoorW.PrintWords Go.Proofs.YtfedlgcpgfofjaaDoor.PAll Go.Proofs.YtfedlgcpgfofjaaDoor.Plain
set_option linter.unusedVariables false
set_option linter.unusedSimpArgs false
set_option maxRecDepth 100000 in
set_option maxHeartbeats 4000000 in
theorem play_new (hh tt : Int) (i j : Nat) (p : List Nat) (B : Option Addr) (n c : Nat) (g : Nat → Nat) (R : Nat → List Nat) (P : Nat → Nat) (A : Nat → List Nat) (V : Nat → Value) (base M : Nat) (w : World) (hi : i < 4) (hj : j < 4)
    (hsi : ∀ W : World, Calls Tryd.prog 56 #[.int .i64 hh] W fun e w' => e = .returned (.int .i64 (i : Int)) ∧ W = w') (hsj : ∀ W : World, Calls Tryd.prog 56 #[.int .i64 tt] W fun e w' => e = .returned (.int .i64 (j : Int)) ∧ W = w')
    (hn : n = p.length) (hnc : n ≤ c) (hnM : M + n ≤ 3000000) (hM : 64 ≤ M) (hpa : All 256 p) (hC : ∀ U : World, Below base w U → C8 U B p.length p) (hbase : base ≤ w.heap.size) (hF : Four w base M g R P A V) (hT : Tabs w) (h2b : 2 < base) :
    Calls Tryd.prog 42 #[.agg #[.int .i64 1, .int .i64 hh, .int .i64 tt, .slice B n c], .agg (hptr g).toArray, .agg (rall R P V).toArray] w (Stepped base (M + n) w g) := by
  have H1 := Lib.hid hsi; have H2 := Lib.hid hsj
  have HN := Lib.hid hn; have HPA := Lib.hid hpa; have HC := Lib.hid hC; have HF := Lib.hid hF; have HT := Lib.hid hT
  clear hsi hsj hn hpa hC hF hT
  go_enter Tryd.func42, Tryd.ntmps42
  go_upto_region 1 with fail
  obtain ⟨w0, hw0⟩ : ∃ W : World, W = (((((w.alloc (.cells #[.int .i64 1, .int .i64 hh, .int .i64 tt, .slice B n c] 64)).alloc (.cells (hptr g).toArray 54)).alloc (.cells (rall R P V).toArray 60)).alloc (.cells z54.toArray 54)).alloc (.cells z60.toArray 60)) := ⟨_, rfl⟩
  change Code.wp _ _ _ _ (((((w.alloc (.cells #[.int .i64 1, .int .i64 hh, .int .i64 tt, .slice B n c] 64)).alloc (.cells (hptr g).toArray 54)).alloc (.cells (rall R P V).toArray 60)).alloc (.cells z54.toArray 54)).alloc (.cells z60.toArray 60))
  rw [← hw0]
  have z0 : w0.heap.size = w.heap.size + 5 := by rw [hw0]; simp
  have BO0 : Blk w0 w.heap.size 64 #[.int .i64 1, .int .i64 hh, .int .i64 tt, .slice B n c] := by rw [hw0]; exact ((((Blk.new w 64 _).alloc _).alloc _).alloc _).alloc _
  have BH0 : Blk w0 (w.heap.size + 1) 54 (hptr g).toArray := by rw [hw0]; exact (((Blk.new_ (w.alloc _) 54 _ _ (by simp)).alloc _).alloc _).alloc _
  have BR0 : Blk w0 (w.heap.size + 1 + 1) 60 (rall R P V).toArray := by rw [hw0]; exact ((Blk.new_ _ 60 _ _ (by simp)).alloc _).alloc _
  have B60 : Blk w0 (w.heap.size + 1 + 1 + 1) 54 z54.toArray := by rw [hw0]; exact (Blk.new_ _ 54 _ _ (by simp)).alloc _
  have B70 : Blk w0 (w.heap.size + 1 + 1 + 1 + 1) 60 z60.toArray := by rw [hw0]; exact Blk.new_ _ 60 _ _ (by simp)
  have hb0 : Below w.heap.size w w0 := by rw [hw0]; exact (((((Below.refl _ _).alloc (Nat.le_refl _) _).alloc (by simp) _).alloc (by simp; omega) _).alloc (by simp; omega) _).alloc (by simp; omega) _
  clear hw0
  have c1 : w0.cell? ⟨w.heap.size, 1, none⟩ = some (.int .i64 hh) := BO0.cell 1
  have c2 : w0.cell? ⟨w.heap.size, 2, none⟩ = some (.int .i64 tt) := BO0.cell 2
  go_quiet ((go_at_call 56; first | exact quiet_left (H1.out _) | exact quiet_left (H2.out _) | exact quiet_add_left (H1.out _) | exact quiet_add_left (H2.out _)))
  obtain ⟨w1, hw1⟩ : ∃ W : World, W = w0.drewN nq := ⟨_, rfl⟩
  rw [← hw1]
  have z1 : w1.heap.size = w.heap.size + 5 := by rw [hw1]; exact z0
  have BO1 : Blk w1 w.heap.size 64 #[.int .i64 1, .int .i64 hh, .int .i64 tt, .slice B n c] := by rw [hw1]; exact BO0.drewN nq
  have BH1 : Blk w1 (w.heap.size + 1) 54 (hptr g).toArray := by rw [hw1]; exact BH0.drewN nq
  have BR1 : Blk w1 (w.heap.size + 1 + 1) 60 (rall R P V).toArray := by rw [hw1]; exact BR0.drewN nq
  have B61 : Blk w1 (w.heap.size + 1 + 1 + 1) 54 z54.toArray := by rw [hw1]; exact B60.drewN nq
  have B71 : Blk w1 (w.heap.size + 1 + 1 + 1 + 1) 60 z60.toArray := by rw [hw1]; exact B70.drewN nq
  have hb1 : Below w.heap.size w w1 := by rw [hw1]; exact below_drewN hb0 nq
  have F1 := HF.out.keep hb1
  have T1 := HT.out.below hb1
  have HFL := Lib.hid F1.lens
  have Z1 := Lib.hid z1
  clear BO0 BH0 BR0 B60 B70 hb0 z0 c1 c2 hw1 z1
  have c0 : w1.cell? ⟨w.heap.size, 0, none⟩ = some (.int .i64 1) := BO1.cell 0
  have i0 : (0 : Int) ≤ (i : Int) := by omega
  have i4 : (i : Int) < 4 := by omega
  have j0 : (0 : Int) ≤ (j : Int) := by omega
  have j4 : (j : Int) < 4 := by omega
  have hTF := T1.2.2.1
  go_upto_region 44 with (first
    | (go_at_call 25; (with_reducible refine (new_any _ hTF).mono ?_); rintro e w2 ⟨rfl, hw2⟩
       have hb2 : Below w1.heap.size w1 w2 := by rw [← hw2]; exact (Below.refl _ _).alloc (Nat.le_refl _) _
       have N2 : HashAt w2 w1.heap.size first 0 [] := by rw [← hw2]; exact hash_new w1
       have BH2 := BH1.below hb2 BH1.lt
       have f2 := BH2.frozen i
       have q2 : w2.cell? ⟨w.heap.size + 1, i, none⟩ = some (.pointer (some ⟨g i, 0, none⟩)) := (BH2.cell i).trans (hptr_at g i hi)
       have z2 : w1.heap.size < w2.heap.size := N2.lt
       have HBH2 := Lib.hid BH2
       clear hw2 hTF BH2)
    | (go_at_call 41; (with_reducible refine (rnew_any _).mono ?_); rintro e w4 ⟨rfl, hb4⟩
       have BR4 : Blk w4 (w.heap.size + 1 + 1) 60 (rpre R P V i ++ rh (R i) (P i) (V i) ++ rpost R P V i).toArray := by
         rw [← rall_mid R P V i hi]
         exact ((BR1.below hb2 BR1.lt).far (p := ⟨w.heap.size + 1, i, none⟩) (by show w.heap.size + 1 + 1 ≠ w.heap.size + 1; omega) _).below hb4 (by have := BR1.lt; simp; omega)
       have HB4 := Lib.hid hb4; have HBR4 := Lib.hid BR4
       clear f2 q2 hb4 BR4)
    | (refine wpl_store rfl 58 _ _ rfl (w.heap.size + 1 + 1) (i * 10) rfl 60 (rpre R P V i) (rh (R i) (P i) (V i)) (rpost R P V i) (rh first 0 (.slice none 0 0)) rfl HBR4.out (rpre_len R P V HFL.out i hi) (by rw [rh_len _ _ _ (HFL.out i hi)]; rfl) (by kernel_rfl) (rh_one _ _ _ rfl) ?_
       intro w5 S5 O5
       rw [rall_upd R P V i hi] at S5))
  have z5 : w5.heap.size = w4.heap.size := O5.size
  have z1 := Z1.out
  have e4 : w2.heap.size ≤ w4.heap.size := by have := HB4.out.size; simpa using this
  obtain ⟨w3, hw3⟩ : ∃ W : World, W = w2.setCell ⟨w.heap.size + 1, i, none⟩ (.pointer (some ⟨w1.heap.size, 0, none⟩)) := ⟨_, rfl⟩
  have hb4 : Below w3.heap.size w3 w4 := by rw [hw3]; exact HB4.out
  have hb3 : Below w.heap.size w w3 := by rw [hw3]; exact (hb1.trans (hb2.mono (by omega))).setCell (by show w.heap.size ≤ w.heap.size + 1; omega) _
  have hb4' : Below w.heap.size w w4 := hb3.trans (hb4.mono hb3.size)
  have hbE : Below w.heap.size w w5 := O5.below hb4' (by omega)
  have e3 : w3.heap.size = w2.heap.size := by rw [hw3]; simp [World.setCell]
  have BH3 : Blk w3 (w.heap.size + 1) 54 (hptr (upd g i w1.heap.size)).toArray := by
    have h := HBH2.out.set_ i (.pointer (some ⟨w1.heap.size, 0, none⟩))
    rw [hptr_set g i _ hi] at h
    rw [hw3]
    exact h
  have far : ∀ {q t : Nat} {cs : Array Value}, Blk w1 q t cs → q ≠ w.heap.size + 1 → q ≠ w.heap.size + 1 + 1 → Blk w5 q t cs := fun {q t cs} h h1 h2 =>
    Blk.only (Blk.below (by rw [hw3]; exact (h.below hb2 h.lt).far (p := ⟨w.heap.size + 1, i, none⟩) h1 _) hb4 (by have := h.lt; omega)) O5 h2
  have BOE := far BO1 (by omega) (by omega)
  have B6E := far B61 (by omega) (by omega)
  have B7E := far B71 (by omega) (by omega)
  have BHE : Blk w5 (w.heap.size + 1) 54 (hptr (upd g i w1.heap.size)).toArray := (BH3.below hb4 BH3.lt).only O5 (by omega)
  have BRE := S5
  have N5 : HashAt w5 w1.heap.size first 0 [] := by
    refine HashAt.keep (w := w2) N2 ((O5.block _ (by omega)).trans ((hb4.block _ (by omega)).trans ?_))
    rw [hw3]
    exact Below.heap_setCell w2 ⟨w.heap.size + 1, i, none⟩ _ _ (by show w1.heap.size ≠ w.heap.size + 1; omega)
  have FE : Four w5 base (M + n) (upd g i w1.heap.size) (upd R i first) (upd P i 0) (upd A i []) (upd V i (.slice none 0 0)) :=
    HF.out.set_ (by omega) i hi ⟨by omega, N5, first_len, first_all, rfl, Nat.zero_le _, Nat.zero_le _, All.nil, Own.nil _ _⟩ (fun k hk hne => ((HF.out.each k hk).below hbE).more (by omega)) (fun k hk hne => by have := (HF.out.each k hk).hash.lt; omega)
  have HZE : Hid (∀ k, k < 4 → upd g i w1.heap.size k ≠ w.heap.size + 1 + 1 + 1 ∧ upd g i w1.heap.size k ≠ w.heap.size + 1 + 1 + 1 + 1) := fun k hk => by
    by_cases e : k = i
    · subst e; rw [upd_self]; omega
    · rw [upd_ne _ _ _ _ e]; have := (HF.out.each k hk).hash.lt; omega
  have HZV : Hid (∀ k, k < 4 → ∀ x, (upd V i (.slice none 0 0) k).ownBlock = some x → x ≠ w.heap.size + 1 + 1 + 1 ∧ x ≠ w.heap.size + 1 + 1 + 1 + 1) := fun k hk x hx => by
    by_cases e : k = i
    · subst e; rw [upd_self] at hx; cases hx
    · rw [upd_ne _ _ _ _ e] at hx; have := own_lt (HF.out.each k hk).own x hx; omega
  have HKQ : Hid (∀ q, q < w.heap.size → (∀ k, k < 4 → g k ≠ q) → w5.heap[q]? = w.heap[q]?) := fun q h1 _ => (hbE).block q h1
  have HRL := Lib.hid (rall_len (upd R i first) (upd P i 0) (upd V i (.slice none 0 0)) (FE).lens)
  have HRO := Lib.hid (rall_one (upd R i first) (upd P i 0) (upd V i (.slice none 0 0)) (FE).ones)
  have HFE := Lib.hid FE
  have HBE := Lib.hid (hbE.mono hbase)
  refine wp_region_noPanic ?_
  refine wp_region_held_drew (S := Held3 w.heap.size (w.heap.size + 1) (w.heap.size + 1 + 1) [.int .i64 1, .int .i64 hh, .int .i64 tt, .slice B n c] (hptr (upd g i w1.heap.size)) (rall (upd R i first) (upd P i 0) (upd V i (.slice none 0 0)))) (by kernel_rfl) ?_ (fun hHeld => ?_)
  · exact ⟨BOE, BHE, BRE⟩
  refine wpAnyH_take (i := 0) (oi := ⟨some 210, _, _, _, _, _⟩) (v := _) rfl (by kernel_rfl) (by kernel_rfl) (by kernel_rfl) (fun _ _ _ h => h) (yieldsIf_load_mid (by rfl) 54 _ rfl (w.heap.size + 1) 0 rfl (hptr (upd g i w1.heap.size)) _ (fun wx hSw => blk_range hSw.2.1) Tryd.underlying54 rfl (by kernel_rfl)) hHeld ?_
  try simp only [Act.put, List.setIfInBounds_toArray, List.set_cons_zero, List.set_cons_succ]
  refine wpAnyH_take (i := 1) (oi := ⟨some 211, _, _, _, _, _⟩) (v := _) rfl (by kernel_rfl) (by kernel_rfl) (by kernel_rfl) (fun _ _ _ h => h) (yieldsIf_load_mid (by rfl) 60 _ rfl (w.heap.size + 1 + 1) 0 rfl (rall (upd R i first) (upd P i 0) (upd V i (.slice none 0 0))) _ (fun wx hSw => blk_range hSw.2.2) Tryd.underlying60 rfl (by rw [HRL.out]; kernel_rfl)) hHeld ?_
  try simp only [Act.put, List.setIfInBounds_toArray, List.set_cons_zero, List.set_cons_succ]
  refine wpAnyH_ready (rs := [2]) (by kernel_rfl) (by simp) ?_
  refine AllReadyH.cons (o := ⟨none, _, _, _, _, _⟩) rfl (fun K hK => ?_) AllReadyH.nil
  refine wpr_if (by rfl) ?_
  refine wpr_store 54 _ _ rfl (w.heap.size + 1 + 1 + 1) 0 rfl 54 [] z54 [] (hptr (upd g i w1.heap.size)) rfl (by rw [List.nil_append, List.append_nil]; exact B6E) rfl rfl (by kernel_rfl) (hptr_one _) ?_
  intro wS6 S6 O6
  refine hK.out _ _ (hHeld.keep (O6.block _ (by omega)) (O6.block _ (by omega)) (O6.block _ (by omega))) (fun hHeld => ?_)
  clear hK K
  try simp only [Act.put, List.setIfInBounds_toArray, List.set_cons_zero, List.set_cons_succ]
  refine wpAnyH_ready (rs := [3]) (by kernel_rfl) (by simp) ?_
  refine AllReadyH.cons (o := ⟨none, _, _, _, _, _⟩) rfl (fun K hK => ?_) AllReadyH.nil
  refine wpr_if (by rfl) ?_
  refine wpr_store 60 _ _ rfl (w.heap.size + 1 + 1 + 1 + 1) 0 rfl 60 [] z60 [] (rall (upd R i first) (upd P i 0) (upd V i (.slice none 0 0))) rfl (by rw [List.nil_append, List.append_nil]; exact (Blk.drew (B7E : Blk _ _ 60 z60.toArray)).only O6 (show (w.heap.size + 1 + 1 + 1 + 1) ≠ (w.heap.size + 1 + 1 + 1) by omega)) rfl (by rw [HRL.out]; rfl) (by rw [HRL.out]; kernel_rfl) HRO.out ?_
  intro wS7 S7 O7
  refine hK.out _ _ (hHeld.keep (O7.block _ (by omega)) (O7.block _ (by omega)) (O7.block _ (by omega))) (fun hHeld => ?_)
  clear hK K
  try simp only [Act.put, List.setIfInBounds_toArray, List.set_cons_zero, List.set_cons_succ]
  refine wpAnyH_take (i := 4) (oi := ⟨some 8, _, _, _, _, _⟩) (v := ?_) rfl (by kernel_rfl) (by kernel_rfl) (by kernel_rfl) (fun _ _ _ h => h) (Or.inl ⟨by rfl, ?_⟩) hHeld ?_
  rotate_left
  · intro wx hSw
    go_simp
    all_goals (with_reducible rfl)
  try simp only [Act.put, List.setIfInBounds_toArray, List.set_cons_zero, List.set_cons_succ]
  refine wpAnyH_done (by kernel_rfl) ?_ _
  refine NoPanic.normal ?_
  go_wp2
  rw [List.nil_append, List.append_nil] at S6 S7
  have S6' := S6.only O7 (by omega)
  obtain ⟨FS, hbS⟩ := stepped_of HFE.out.drew (show Below base w w5.drew from ⟨HBE.out.os, HBE.out.tape, HBE.out.output, HBE.out.size, HBE.out.block⟩) O6 O7 (by omega) (by omega) HZE.out HZV.out HKQ.out (by omega) (by omega)
  exact bodyPost_ret (results_list (rs := [.cell 6 54, .cell 7 60, .tmp 8]) rfl (by simp) (.cell (w.heap.size + 1 + 1 + 1) 54 (hptr (upd g i w1.heap.size)).toArray (0, 0) _ rfl S6' Tryd.underlying54 rfl (by kernel_rfl) (.cell (w.heap.size + 1 + 1 + 1 + 1) 60 (rall (upd R i first) (upd P i 0) (upd V i (.slice none 0 0))).toArray (0, 0) _ rfl S7 Tryd.underlying60 rfl (by rw [List.size_toArray, HRL.out]; kernel_rfl) (.tmp .nil)))) rfl ⟨_, _, _, _, _, rfl, FS, hbS.1, hbS.2⟩
end Go.Proofs.YtfedlgcpgfofjaaDoor.Sha
