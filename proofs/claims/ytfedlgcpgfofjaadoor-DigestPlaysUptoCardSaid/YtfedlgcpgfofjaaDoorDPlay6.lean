/-
  DigestPlays: one step of play: Write.
-/
import Derived.Test.YtfedlgcpgfofjaaDoorDPlay1
namespace Go.Proofs.YtfedlgcpgfofjaaDoor.Sha
open Go.RowKit Go.Proofs.YtfedlgcpgfofjaaDoorW.PrintWords Go.Proofs.YtfedlgcpgfofjaaDoor.PAll Go.Proofs.YtfedlgcpgfofjaaDoor.Plain
set_option linter.unusedVariables false
set_option linter.unusedSimpArgs false
set_option maxRecDepth 100000 in
set_option maxHeartbeats 4000000 in
theorem play_write (hh tt : Int) (i j : Nat) (p : List Nat) (B : Option Addr) (n c : Nat) (g : Nat → Nat) (R : Nat → List Nat) (P : Nat → Nat) (A : Nat → List Nat) (V : Nat → Value) (base M : Nat) (w : World) (hi : i < 4) (hj : j < 4)
    (hsi : ∀ W : World, Calls Tryd.prog 56 #[.int .i64 hh] W fun e w' => e = .returned (.int .i64 (i : Int)) ∧ W = w') (hsj : ∀ W : World, Calls Tryd.prog 56 #[.int .i64 tt] W fun e w' => e = .returned (.int .i64 (j : Int)) ∧ W = w')
    (hn : n = p.length) (hnc : n ≤ c) (hnM : M + n ≤ 3000000) (hM : 64 ≤ M) (hpa : All 256 p) (hC : ∀ U : World, Below base w U → C8 U B p.length p) (hbase : base ≤ w.heap.size) (hF : Four w base M g R P A V) (hT : Tabs w) (h2b : 2 < base) :
    Calls Tryd.prog 42 #[.agg #[.int .i64 2, .int .i64 hh, .int .i64 tt, .slice B n c], .agg (hptr g).toArray, .agg (rall R P V).toArray] w (Stepped base (M + n) w g) := by
  have H1 := Lib.hid hsi; have H2 := Lib.hid hsj
  have HN := Lib.hid hn; have HPA := Lib.hid hpa; have HC := Lib.hid hC; have HF := Lib.hid hF; have HT := Lib.hid hT
  clear hsi hsj hn hpa hC hF hT
  go_enter Tryd.func42, Tryd.ntmps42
  go_upto_region 1 with fail
  obtain ⟨w0, hw0⟩ : ∃ W : World, W = (((((w.alloc (.cells #[.int .i64 2, .int .i64 hh, .int .i64 tt, .slice B n c] 64)).alloc (.cells (hptr g).toArray 54)).alloc (.cells (rall R P V).toArray 60)).alloc (.cells z54.toArray 54)).alloc (.cells z60.toArray 60)) := ⟨_, rfl⟩
  change Code.wp _ _ _ _ (((((w.alloc (.cells #[.int .i64 2, .int .i64 hh, .int .i64 tt, .slice B n c] 64)).alloc (.cells (hptr g).toArray 54)).alloc (.cells (rall R P V).toArray 60)).alloc (.cells z54.toArray 54)).alloc (.cells z60.toArray 60))
  rw [← hw0]
  have z0 : w0.heap.size = w.heap.size + 5 := by rw [hw0]; simp
  have BO0 : Blk w0 w.heap.size 64 #[.int .i64 2, .int .i64 hh, .int .i64 tt, .slice B n c] := by rw [hw0]; exact ((((Blk.new w 64 _).alloc _).alloc _).alloc _).alloc _
  have BH0 : Blk w0 (w.heap.size + 1) 54 (hptr g).toArray := by rw [hw0]; exact (((Blk.new_ (w.alloc _) 54 _ _ (by simp)).alloc _).alloc _).alloc _
  have BR0 : Blk w0 (w.heap.size + 1 + 1) 60 (rall R P V).toArray := by rw [hw0]; exact ((Blk.new_ _ 60 _ _ (by simp)).alloc _).alloc _
  have B60 : Blk w0 (w.heap.size + 1 + 1 + 1) 54 z54.toArray := by rw [hw0]; exact (Blk.new_ _ 54 _ _ (by simp)).alloc _
  have B70 : Blk w0 (w.heap.size + 1 + 1 + 1 + 1) 60 z60.toArray := by rw [hw0]; exact Blk.new_ _ 60 _ _ (by simp)
  have hb0 : Below w.heap.size w w0 := by rw [hw0]; exact (((((Below.refl _ _).alloc (Nat.le_refl _) _).alloc (by simp) _).alloc (by simp; omega) _).alloc (by simp; omega) _).alloc (by simp; omega) _
  clear hw0
  have c1 : w0.cell? ⟨w.heap.size, 1, none⟩ = some (.int .i64 hh) := BO0.cell 1
  have c2 : w0.cell? ⟨w.heap.size, 2, none⟩ = some (.int .i64 tt) := BO0.cell 2
  go_quiet ((go_at_call 56; first | exact quiet_left (H1.out _) | exact quiet_left (H2.out _) | exact quiet_add_left (H1.out _) | exact quiet_add_left (H2.out _)))
  obtain ⟨w1, hw1⟩ : ∃ W : World, W = w0.drewN nq := ⟨_, rfl⟩
  rw [← hw1]
  have z1 : w1.heap.size = w.heap.size + 5 := by rw [hw1]; exact z0
  have BO1 : Blk w1 w.heap.size 64 #[.int .i64 2, .int .i64 hh, .int .i64 tt, .slice B n c] := by rw [hw1]; exact BO0.drewN nq
  have BH1 : Blk w1 (w.heap.size + 1) 54 (hptr g).toArray := by rw [hw1]; exact BH0.drewN nq
  have BR1 : Blk w1 (w.heap.size + 1 + 1) 60 (rall R P V).toArray := by rw [hw1]; exact BR0.drewN nq
  have B61 : Blk w1 (w.heap.size + 1 + 1 + 1) 54 z54.toArray := by rw [hw1]; exact B60.drewN nq
  have B71 : Blk w1 (w.heap.size + 1 + 1 + 1 + 1) 60 z60.toArray := by rw [hw1]; exact B70.drewN nq
  have hb1 : Below w.heap.size w w1 := by rw [hw1]; exact below_drewN hb0 nq
  have F1 := HF.out.keep hb1
  have T1 := HT.out.below hb1
  have HFL := Lib.hid F1.lens
  have Z1 := Lib.hid z1
  clear BO0 BH0 BR0 B60 B70 hb0 z0 c1 c2 hw1 z1
  have c0 : w1.cell? ⟨w.heap.size, 0, none⟩ = some (.int .i64 2) := BO1.cell 0
  have i0 : (0 : Int) ≤ (i : Int) := by omega
  have i4 : (i : Int) < 4 := by omega
  have j0 : (0 : Int) ≤ (j : Int) := by omega
  have j4 : (j : Int) < 4 := by omega
  have HRL := Lib.hid (rall_len R P V F1.lens)
  have HRO := Lib.hid (rall_one R P V F1.ones)
  have z1 := Z1.out
  have q1 : w1.cell? ⟨w.heap.size + 1, i, none⟩ = some (.pointer (some ⟨g i, 0, none⟩)) := (BH1.cell i).trans (hptr_at g i hi)
  have p1 := F1.each i hi
  obtain ⟨Ai, ci, hVi, hlei, hCi⟩ := p1.own.arg
  have hmost := p1.most
  have hfew := p1.few
  have hgl := p1.hash.lt
  have hgi : g i < w.heap.size := (HF.out.each i hi).hash.lt
  have hgb := p1.le
  have hb1b : Below base w w1 := hb1.mono hbase
  have hlent : ∀ U : World, Below base w U → Calls Tryd.prog 13 #[.slice B n c] U fun e w' => ∃ gf cf, e = .returned (.slice (some ⟨gf, 0, none⟩) (n + 64) cf) ∧ Own w' U.heap.size (.slice (some ⟨gf, 0, none⟩) (n + 64) cf) (p ++ marks) ∧ Below U.heap.size U w' := fun U hb => by
    have hn := HN.out
    have hlen := lent_any p B c U (by omega) (by omega) (HC.out U hb)
    rw [← hn] at hlen
    refine hlen.mono fun e w' ⟨v, he, hO, hb⟩ => ?_
    obtain ⟨gf, cf, hv, _⟩ := hO.pos (by rw [List.length_append, marks_len]; omega)
    rw [show (p ++ marks).length = n + 64 by rw [List.length_append, marks_len, hn]] at hv
    subst hv
    exact ⟨gf, cf, he, hO, hb⟩
  have HLENT := Lib.hid hlent; have HF1 := Lib.hid F1; have HP1 := Lib.hid p1; have HT1 := Lib.hid T1; have HCI := Lib.hid hCi; have HVI := Lib.hid hVi
  have c3 : w1.cell? ⟨w.heap.size, 3, none⟩ = some (.slice B n c) := BO1.cell 3
  clear hlent T1 F1 p1 hCi hVi
  go_upto_region 8 with (
    go_at_call 13; (with_reducible refine (HLENT.out w1 hb1b).mono ?_); rintro e w2 ⟨gf, cf, rfl, Of2, hb2⟩
    have Lf := Of2.lt gf rfl
    have s2 := hb2.size)
  have BO2 := BO1.below hb2 BO1.lt
  have BH2 := BH1.below hb2 BH1.lt
  have BR2 := BR1.below hb2 BR1.lt
  have hTk := Of2.take n (by omega)
  have hTe : (p ++ marks).take n = p := by rw [HN.out]; exact List.take_left' rfl
  rw [hTe] at hTk
  have ncf := (Own.c8 hTk).2.1
  have hC2 := (Own.c8 hTk).2.2
  have HTK := Lib.hid hTk
  have n0 : (0 : Int) ≤ (n : Int) := by omega
  have n1 : (n : Int) ≤ (cf : Int) := by omega
  clear hTe hTk
  refine wp_region_noPanic ?_
  refine wp_region_held_drew (S := Held3 w.heap.size (w.heap.size + 1) (w.heap.size + 1 + 1) [.int .i64 2, .int .i64 hh, .int .i64 tt, .slice B n c] (hptr g) (rall R P V)) (by kernel_rfl) ?_ (fun hHeld => ?_)
  · exact ⟨BO2, BH2, BR2⟩
  refine wpAnyH_take (i := 0) (oi := ⟨some 43, _, _, _, _, _⟩) (v := ?_) rfl (by kernel_rfl) (by kernel_rfl) (by kernel_rfl) (fun _ _ _ h => h) (Or.inl ⟨by rfl, ?_⟩) hHeld ?_
  rotate_left
  · intro wx hSw
    go_simp
    all_goals (with_reducible rfl)
  try simp only [Act.put, List.setIfInBounds_toArray, List.set_cons_zero, List.set_cons_succ]
  refine wpAnyH_take (i := 1) (oi := ⟨some 44, _, _, _, _, _⟩) (v := ?_) rfl (by kernel_rfl) (by kernel_rfl) (by kernel_rfl) (fun _ _ _ h => h) (Or.inl ⟨by rfl, ?_⟩) hHeld ?_
  rotate_left
  · intro wx hSw
    go_simp
    all_goals (with_reducible rfl)
  try simp only [Act.put, List.setIfInBounds_toArray, List.set_cons_zero, List.set_cons_succ]
  refine wpAnyH_take (i := 2) (oi := ⟨some 45, _, _, _, _, _⟩) (v := ?_) rfl (by kernel_rfl) (by kernel_rfl) (by kernel_rfl) (fun _ _ _ h => h) (Or.inl ⟨by rfl, ?_⟩) hHeld ?_
  rotate_left
  · intro wx hSw
    have hc := (hSw.2.1.cell i).trans (hptr_at g i hi)
    go_simp
    all_goals (with_reducible rfl)
  try simp only [Act.put, List.setIfInBounds_toArray, List.set_cons_zero, List.set_cons_succ]
  refine wpAnyH_take (i := 3) (oi := ⟨some 46, _, _, _, _, _⟩) (v := ?_) rfl (by kernel_rfl) (by kernel_rfl) (by kernel_rfl) (fun _ _ _ h => h) (Or.inl ⟨by rfl, ?_⟩) hHeld ?_
  rotate_left
  · intro wx hSw
    go_simp
    all_goals (with_reducible rfl)
  try simp only [Act.put, List.setIfInBounds_toArray, List.set_cons_zero, List.set_cons_succ]
  refine wpAnyH_take (i := 4) (oi := ⟨some 47, _, _, _, _, _⟩) (v := ?_) rfl (by kernel_rfl) (by kernel_rfl) (by kernel_rfl) (fun _ _ _ h => h) (Or.inl ⟨by rfl, ?_⟩) hHeld ?_
  rotate_left
  · intro wx hSw
    go_simp
    all_goals (with_reducible rfl)
  try simp only [Act.put, List.setIfInBounds_toArray, List.set_cons_zero, List.set_cons_succ]
  refine wpAnyH_take (i := 5) (oi := ⟨some 48, _, _, _, _, _⟩) (v := ?_) rfl (by kernel_rfl) (by kernel_rfl) (by kernel_rfl) (fun _ _ _ h => h) (Or.inl ⟨by rfl, ?_⟩) hHeld ?_
  rotate_left
  · intro wx hSw
    have hc : wx.cell? ⟨w.heap.size, 3, none⟩ = some (.slice B n c) := hSw.1.cell 3
    go_simp
    all_goals (with_reducible rfl)
  try simp only [Act.put, List.setIfInBounds_toArray, List.set_cons_zero, List.set_cons_succ]
  refine wpAnyH_take (i := 6) (oi := ⟨some 49, _, _, _, _, _⟩) (v := ?_) rfl (by kernel_rfl) (by kernel_rfl) (by kernel_rfl) (fun _ _ _ h => h) (Or.inl ⟨by rfl, ?_⟩) hHeld ?_
  rotate_left
  · intro wx hSw
    go_simp
    all_goals (with_reducible rfl)
  try simp only [Act.put, List.setIfInBounds_toArray, List.set_cons_zero, List.set_cons_succ]
  refine wpAnyH_take (i := 7) (oi := ⟨some 50, _, _, _, _, _⟩) (v := ?_) rfl (by kernel_rfl) (by kernel_rfl) (by kernel_rfl) (fun _ _ _ h => h) (Or.inl ⟨by rfl, ?_⟩) hHeld ?_
  rotate_left
  · intro wx hSw
    go_simp
    all_goals (with_reducible rfl)
  try simp only [Act.put, List.setIfInBounds_toArray, List.set_cons_zero, List.set_cons_succ]
  refine wpAnyH_ready (rs := [8]) (by kernel_rfl) (by simp) ?_
  refine AllReadyH.cons (o := ⟨some 51, _, _, _, _, _⟩) rfl (fun K hK => ?_) AllReadyH.nil
  go_simp
  have hb2d : Below w1.heap.size w1 w2.drew := ⟨hb2.os, hb2.tape, hb2.output, hb2.size, hb2.block⟩
  refine (write_c (g i) (P i) (R i) (A i) p (some ⟨gf, 0, none⟩) n cf w2.drew HP1.out.len HP1.out.reg HP1.out.mod (by have := HN.out; omega) (HP1.out.hash.below hb2d) HP1.out.byte HN.out ncf HPA.out hC2 (fun _ b' o' e => by injection e with e; injection e with e; omega) (HT1.out.below hb2d).1 (by have := (HT1.out.below hb2d).2.2.2; omega) (by omega)).mono ?_
  rintro e w3 ⟨rfl, N3, G3d⟩
  have G3 : w2.grownBy w3 (some (g i)) := ⟨G3d.os, G3d.tape, G3d.output, G3d.size, G3d.block⟩
  have kp : ∀ q, q < w2.heap.size → q ≠ g i → w3.heap[q]? = w2.heap[q]? := fun q h1 h2 => G3.block q h1 (fun e => h2 (by injection e))
  clear G3d
  refine hK.out _ _ (hHeld.keep (kp _ (by omega) (by omega)) (kp _ (by omega) (by omega)) (kp _ (by omega) (by omega))) (fun hHeld => ?_)
  clear hK K
  try simp only [Act.put, List.setIfInBounds_toArray, List.set_cons_zero, List.set_cons_succ]
  refine wpAnyH_done (by kernel_rfl) ?_ _
  refine NoPanic.normal ?_
  have s3 := G3.size
  have BO3 : Blk w3 w.heap.size 64 #[.int .i64 2, .int .i64 hh, .int .i64 tt, .slice B n c] := (kp _ (by omega) (by omega)).trans BO2
  have BR3 : Blk w3 (w.heap.size + 1 + 1) 60 (rpre R P V i ++ rh (R i) (P i) (V i) ++ rpost R P V i).toArray := by
    rw [← rall_mid R P V i hi]
    exact (kp _ (by omega) (by omega)).trans BR2
  have Of3 : Own w3 w1.heap.size (.slice (some ⟨gf, 0, none⟩) (n + 64) cf) (p ++ marks) := Of2.grown G3 (fun k hk e => by injection hk with hk; have e2 : gf = k := Option.some.inj e; omega)
  have hb3 : Below base w w3 := ((hb1b.trans (hb2.mono (by omega)))).grown G3 (by omega) (fun k hk => by injection hk; omega)
  have hci : C8 w3 Ai (A i).length (A i) := by
    have ho := HP1.out.own.below hb2
    have ho3 := ho.grown G3 (fun k hk e => by
      injection hk with hk
      subst hk
      obtain ⟨rest, hB, _⟩ := HP1.out.hash.below hb2
      exact ho.ne hB (by decide) e)
    rw [HVI.out] at ho3
    exact (Own.c8 ho3).2.2
  have hb3d : Below base w w3.drew := ⟨hb3.os, hb3.tape, hb3.output, hb3.size, hb3.block⟩
  have hrw : Calls Tryd.prog 57 #[.agg (rh (R i) (P i) (V i)).toArray, .slice B n c] w3.drew fun e w' => ∃ A' n' c', e = .returned (.agg (rh (R i) (P i) (.slice A' n' c')).toArray) ∧ Own w' w3.heap.size (.slice A' n' c') (A i ++ p) ∧ Below w3.heap.size w3 w' := by
    rw [HVI.out]
    have hn := HN.out
    exact (rwrite_any (R i) (A i) p (P i) (A i).length ci n c Ai B w3.drew HP1.out.len rfl hn (by omega) (hci.below ⟨rfl, rfl, rfl, Nat.le_refl _, fun _ _ => rfl⟩) (HC.out _ hb3d)).mono fun e w' ⟨A', n', c', h1, h2, h3⟩ => ⟨A', n', c', h1, h2, ⟨h3.os, h3.tape, h3.output, h3.size, h3.block⟩⟩
  have HRW := Lib.hid hrw
  clear hrw hci hC2 BR2 BO2 c3 hb3d
  go_upto_region 9 with fail
  refine wp_region_noPanic ?_
  refine wp_region_held_drew (S := (fun w' => Blk w' w.heap.size 64 [.int .i64 2, .int .i64 hh, .int .i64 tt, .slice B n c].toArray)) (by kernel_rfl) ?_ (fun hHeld => ?_)
  · exact BO3
  refine wpAnyH_take (i := 0) (oi := ⟨some 52, _, _, _, _, _⟩) (v := ?_) rfl (by kernel_rfl) (by kernel_rfl) (by kernel_rfl) (fun _ _ _ h => h) (Or.inl ⟨by rfl, ?_⟩) hHeld ?_
  rotate_left
  · intro wx hSw
    go_simp
    all_goals (with_reducible rfl)
  try simp only [Act.put, List.setIfInBounds_toArray, List.set_cons_zero, List.set_cons_succ]
  refine wpAnyH_take (i := 1) (oi := ⟨some 53, _, _, _, _, _⟩) (v := ?_) rfl (by kernel_rfl) (by kernel_rfl) (by kernel_rfl) (fun _ _ _ h => h) (Or.inl ⟨by rfl, ?_⟩) hHeld ?_
  rotate_left
  · intro wx hSw
    go_simp
    all_goals (with_reducible rfl)
  try simp only [Act.put, List.setIfInBounds_toArray, List.set_cons_zero, List.set_cons_succ]
  refine wpAnyH_take (i := 2) (oi := ⟨some 54, _, _, _, _, _⟩) (v := ?_) rfl (by kernel_rfl) (by kernel_rfl) (by kernel_rfl) (fun _ _ _ h => h) (Or.inl ⟨by rfl, ?_⟩) hHeld ?_
  rotate_left
  · intro wx hSw
    go_simp
    all_goals (with_reducible rfl)
  try simp only [Act.put, List.setIfInBounds_toArray, List.set_cons_zero, List.set_cons_succ]
  refine wpAnyH_take (i := 4) (oi := ⟨some 56, _, _, _, _, _⟩) (v := ?_) rfl (by kernel_rfl) (by kernel_rfl) (by kernel_rfl) (fun _ _ _ h => h) (Or.inl ⟨by rfl, ?_⟩) hHeld ?_
  rotate_left
  · intro wx hSw
    go_simp
    all_goals (with_reducible rfl)
  try simp only [Act.put, List.setIfInBounds_toArray, List.set_cons_zero, List.set_cons_succ]
  refine wpAnyH_take (i := 5) (oi := ⟨some 57, _, _, _, _, _⟩) (v := ?_) rfl (by kernel_rfl) (by kernel_rfl) (by kernel_rfl) (fun _ _ _ h => h) (Or.inl ⟨by rfl, ?_⟩) hHeld ?_
  rotate_left
  · intro wx hSw
    have hc : wx.cell? ⟨w.heap.size, 3, none⟩ = some (.slice B n c) := Blk.cell hSw 3
    go_simp
    all_goals (with_reducible rfl)
  try simp only [Act.put, List.setIfInBounds_toArray, List.set_cons_zero, List.set_cons_succ]
  refine wpAnyH_ready (rs := [3]) (by kernel_rfl) (by simp) ?_
  refine AllReadyH.cons (o := ⟨some 55, _, _, _, _, _⟩) rfl (fun K hK => ?_) AllReadyH.nil
  refine wpr_if (by rfl) ?_
  refine wp_load_mid 58 _ rfl (w.heap.size + 1 + 1) (i * 10) rfl (rh (R i) (P i) (V i)) _ (show w3.drew.rangeAt (w.heap.size + 1 + 1) (i * 10) (rh (R i) (P i) (V i)) from by have h := range_of_blk BR3; rwa [rpre_len R P V HFL.out i hi] at h) Tryd.underlying58 rfl (by rw [rh_len _ _ _ (HFL.out i hi)]; kernel_rfl) ?_
  refine hK.out _ _ hHeld (fun hHeld => ?_)
  clear hK K
  try simp only [Act.put, List.setIfInBounds_toArray, List.set_cons_zero, List.set_cons_succ]
  refine wpAnyH_ready (rs := [6]) (by kernel_rfl) (by simp) ?_
  refine AllReadyH.cons (o := ⟨some 58, _, _, _, _, _⟩) rfl (fun K hK => ?_) AllReadyH.nil
  go_simp
  refine HRW.out.mono ?_
  rintro e w4 ⟨Av, nv, cv, rfl, Ov4, hb4⟩
  have BR4 := BR3.below hb4 (by omega)
  refine hK.out _ _ (Blk.below (w := w3) BO3 hb4 (by omega)) (fun hHeld => ?_)
  clear hK K
  try simp only [Act.put, List.setIfInBounds_toArray, List.set_cons_zero, List.set_cons_succ]
  refine wpAnyH_take (i := 7) (oi := ⟨some 59, _, _, _, _, _⟩) (v := ?_) rfl (by kernel_rfl) (by kernel_rfl) (by kernel_rfl) (fun _ _ _ h => h) (Or.inl ⟨by rfl, ?_⟩) hHeld ?_
  rotate_left
  · intro wx hSw
    go_simp
    all_goals (with_reducible rfl)
  try simp only [Act.put, List.setIfInBounds_toArray, List.set_cons_zero, List.set_cons_succ]
  refine wpAnyH_ready (rs := [8]) (by kernel_rfl) (by simp) ?_
  refine AllReadyH.cons (o := ⟨none, _, _, _, _, _⟩) rfl (fun K hK => ?_) AllReadyH.nil
  refine wpr_if (by rfl) ?_
  refine wpr_store 58 _ _ rfl (w.heap.size + 1 + 1) (i * 10) rfl 60 (rpre R P V i) (rh (R i) (P i) (V i)) (rpost R P V i) (rh (R i) (P i) (.slice Av nv cv)) rfl BR4 (rpre_len R P V HFL.out i hi) (by rw [rh_len _ _ _ (HFL.out i hi), rh_len _ _ _ (HFL.out i hi)]) (by rw [rh_len _ _ _ (HFL.out i hi)]; kernel_rfl) (rh_one _ _ _ rfl) ?_
  intro w5 S5 O5
  refine hK.out _ _ (Blk.only hHeld O5 (by omega)) (fun hHeld => ?_)
  clear hK K
  try simp only [Act.put, List.setIfInBounds_toArray, List.set_cons_zero, List.set_cons_succ]
  refine wpAnyH_done (by kernel_rfl) ?_ _
  refine NoPanic.normal ?_
  rw [rall_upd R P V i hi] at S5
  rw [upd_id, upd_id] at S5
  have s4 := hb4.size
  have s5 : w5.heap.size = w4.heap.size := O5.size
  have hb4' : Below base w w4 := hb3.trans (hb4.mono (by omega))
  have hb5 : Below base w w5 := O5.below hb4' (by omega)
  have kp5 : ∀ q, q < w1.heap.size → q ≠ g i → q ≠ w.heap.size + 1 + 1 → w5.heap[q]? = w1.heap[q]? := fun q h1 h2 h3 => (O5.block q h3).trans ((hb4.block q (by omega)).trans ((kp q (by omega) h2).trans (hb2.block q h1)))
  have Of5 : Own w5 w1.heap.size (.slice (some ⟨gf, 0, none⟩) (n + 64) cf) (p ++ marks) := (Of3.below hb4).only O5 (fun e => by have e2 : gf = w.heap.size + 1 + 1 := Option.some.inj e; omega)
  have N5 : HashAt w5 (g i) (R i) (P i) (A i ++ p) := (N3.below hb4).keep (O5.block _ (by omega))
  have Lv := fun (x : Nat) (hx : (Value.slice Av nv cv).ownBlock = some x) => Ov4.lt x hx
  have Ov5 : Own w5 w3.heap.size (.slice Av nv cv) (A i ++ p) := Ov4.only O5 (fun e => by have := (Lv _ e).1; omega)
  have hkept : ∀ U : World, Below base w U → C8 U (some ⟨gf, 0, none⟩) (n + 64) (p ++ marks) → Calls Tryd.prog 16 #[.slice (some ⟨gf, 0, none⟩) (n + 64) cf, .slice B n c] U fun e w' => e = .returned (.bool true) ∧ Below U.heap.size U w' := fun U hb hc => by
    have hn := HN.out
    have h := kept_any p (some ⟨gf, 0, none⟩) B (n + 64) cf c U (by omega) (by omega) (Own.c8 Of5).2.1 (by omega) hc (HC.out U hb)
    rwa [← hn] at h
  have hC5 : C8 w5 (some ⟨gf, 0, none⟩) (n + 64) (p ++ marks) := by
    have h := (Own.c8 Of5).2.2
    rwa [← (Own.c8 Of5).1] at h
  have cf5 := (Own.c8 Of5).2.1
  have c3 : w5.cell? ⟨w.heap.size, 3, none⟩ = some (.slice B n c) := Blk.cell hHeld 3
  have HKEPT := Lib.hid hkept; have HS5 := Lib.hid S5; have HN5 := Lib.hid N5; have HOV := Lib.hid Ov5; have HBO := Lib.hid hHeld; have HKP := Lib.hid kp5; have HLV := Lib.hid Lv
  clear hkept S5 N5 Ov5 hHeld kp5 Ov4 Lv BO3 BR3 BR4 Of3 Of2 kp N3
  go_wp2_with (
    go_at_call 16; (with_reducible refine (HKEPT.out w5 hb5 hC5).mono ?_); rintro e w6 ⟨rfl, hb6⟩
    have s6 := hb6.size
    have Of6 := Of5.below hb6
    have c6 : w6.cell? ⟨w.heap.size, 3, none⟩ = some (.slice B n c) := (hb6.cell (p := ⟨w.heap.size, 3, none⟩) (by show w.heap.size < w5.heap.size; omega)).trans c3
    clear hC5 c3 Of5)
  go_loopw [12] (fun v wr => ∃ k : Nat, k ≤ n ∧ v = .int .i64 (k : Int) ∧ Only gf w6 wr ∧ ∃ q, Own wr w1.heap.size (.slice (some ⟨gf, 0, none⟩) (n + 64) cf) q) (fun v _ => n - (intOf v).toNat)
  case atStart => exact ⟨0, by omega, rfl, Only.refl_ _ _, _, Of6⟩
  case round =>
    clear Of6 c6
    obtain ⟨k, hk, rfl, Oq, q, Of⟩ := hrel
    have BOr : Blk wr w.heap.size 64 #[.int .i64 2, .int .i64 hh, .int .i64 tt, .slice B n c] := (Oq.block _ (by omega)).trans ((hb6.block _ (by omega)).trans HBO.out)
    have c3 : wr.cell? ⟨w.heap.size, 3, none⟩ = some (.slice B n c) := BOr.cell 3
    by_cases hlt : k < n
    · have hql := (Own.c8 Of).1
      obtain ⟨x, hx⟩ : ∃ x, q[k]? = some x := ⟨_, List.getElem?_eq_getElem (by omega)⟩
      have c1 : wr.cell? ⟨gf, k, none⟩ = some (.int .u8 (x : Int)) := by have h := Of.cellAt hx; rwa [Nat.zero_add] at h
      have c2 := Of.blk_frozen k
      have k0 : (0 : Int) ≤ (k : Int) := by omega
      have k1 : (k : Int) < (n : Int) := by omega
      have k2 : (k : Int) < (n : Int) + 64 := by omega
      have HO := Lib.hid Of; have HOQ := Lib.hid Oq
      clear hx hql Of Oq BOr
      go_wp2
      go_roundw
      case rel => exact ⟨k + 1, by omega, by go_num, HOQ.out.setC k _, _, HO.out.set_ k 99⟩
      case measure => simp [intOf]; omega
    · have k1 : ¬ (k : Int) < (n : Int) := by omega
      go_upto_region 44 with fail
      have sE : wr.heap.size = w6.heap.size := Oq.size
      have kpE : ∀ q, q < w1.heap.size → q ≠ g i → q ≠ w.heap.size + 1 + 1 → wr.heap[q]? = w1.heap[q]? := fun q h1 h2 h3 => (Oq.block q (by omega)).trans ((hb6.block q (by omega)).trans (HKP.out q h1 h2 h3))
      have hbE : Below base w wr := Oq.below (hb5.trans (hb6.mono (by omega))) (by omega)
      have BOE : Blk wr w.heap.size 64 #[.int .i64 2, .int .i64 hh, .int .i64 tt, .slice B n c] := BOr
      have BHE : Blk wr (w.heap.size + 1) 54 (hptr g).toArray := (kpE _ (by omega) (by omega) (by omega)).trans BH1
      have BRE : Blk wr (w.heap.size + 1 + 1) 60 (rall R P (upd V i (.slice Av nv cv))).toArray := (Oq.block _ (by omega)).trans ((hb6.block _ (by omega)).trans HS5.out)
      have B6E : Blk wr (w.heap.size + 1 + 1 + 1) 54 z54.toArray := (kpE _ (by omega) (by omega) (by omega)).trans B61
      have B7E : Blk wr (w.heap.size + 1 + 1 + 1 + 1) 60 z60.toArray := (kpE _ (by omega) (by omega) (by omega)).trans B71
      have NE : HashAt wr (g i) (R i) (P i) (A i ++ p) := (HN5.out.below hb6).keep (Oq.block _ (by omega))
      have OvE : Own wr base (.slice Av nv cv) (A i ++ p) := own_weaken (own_move HOV.out (fun x hx => (Oq.block x (by have := (HLV.out x hx).1; omega)).trans (hb6.block x (by have := (HLV.out x hx).2; omega)))) (by omega)
      have FE0 : Four wr base (M + n) (upd g i (g i)) (upd R i (R i)) (upd P i (P i)) (upd A i (A i ++ p)) (upd V i (.slice Av nv cv)) :=
        HF1.out.set_ (by omega) i hi ⟨HP1.out.le, NE, HP1.out.len, HP1.out.reg, HP1.out.mod, HP1.out.few, by rw [List.length_append, ← HN.out]; omega, All.app HP1.out.byte HPA.out, OvE⟩
          (fun x hx hne => ((HF1.out.each x hx).keep (kpE _ ((HF1.out.each x hx).hash.lt) (HF1.out.ne x i hx hi hne) (by have := (HF.out.each x hx).hash.lt; omega)) (fun y hy => kpE y (own_lt (HF1.out.each x hx).own y hy) (fun e => by
            obtain ⟨rest, hB, _⟩ := HP1.out.hash
            exact (HF1.out.each x hx).own.ne hB (by decide) (e ▸ hy)) (by have := own_lt (HF.out.each x hx).own y hy; omega))).more (by omega)) (fun x hx hne => HF1.out.ne x i hx hi hne)
      have FE : Four wr base (M + n) g R P (upd A i (A i ++ p)) (upd V i (.slice Av nv cv)) := by
        have h := FE0
        rw [upd_id g i, upd_id R i, upd_id P i] at h
        exact h
      have HZE : Hid (∀ k, k < 4 → g k ≠ w.heap.size + 1 + 1 + 1 ∧ g k ≠ w.heap.size + 1 + 1 + 1 + 1) := fun k hk => by have := (HF.out.each k hk).hash.lt; omega
      have HZV : Hid (∀ k, k < 4 → ∀ x, (upd V i (.slice Av nv cv) k).ownBlock = some x → x ≠ w.heap.size + 1 + 1 + 1 ∧ x ≠ w.heap.size + 1 + 1 + 1 + 1) := fun k hk x hx => by
        by_cases e : k = i
        · subst e; rw [upd_self] at hx; have := (HLV.out x hx).1; omega
        · rw [upd_ne _ _ _ _ e] at hx; have := own_lt (HF.out.each k hk).own x hx; omega
      have HKQ : Hid (∀ q, q < w.heap.size → (∀ k, k < 4 → g k ≠ q) → wr.heap[q]? = w.heap[q]?) := fun q h1 h2 => (kpE q (by omega) (fun e => h2 i hi e.symm) (by omega)).trans (hb1.block q h1)
      clear HRL HRO
      have HRL := Lib.hid (rall_len R P (upd V i (.slice Av nv cv)) (FE).lens)
      have HRO := Lib.hid (rall_one R P (upd V i (.slice Av nv cv)) (FE).ones)
      have HFE := Lib.hid FE
      have HBE := Lib.hid hbE
      refine wp_region_noPanic ?_
      refine wp_region_held_drew (S := Held3 w.heap.size (w.heap.size + 1) (w.heap.size + 1 + 1) [.int .i64 2, .int .i64 hh, .int .i64 tt, .slice B n c] (hptr g) (rall R P (upd V i (.slice Av nv cv)))) (by kernel_rfl) ?_ (fun hHeld => ?_)
      · exact ⟨BOE, BHE, BRE⟩
      refine wpAnyH_take (i := 0) (oi := ⟨some 210, _, _, _, _, _⟩) (v := _) rfl (by kernel_rfl) (by kernel_rfl) (by kernel_rfl) (fun _ _ _ h => h) (yieldsIf_load_mid (by rfl) 54 _ rfl (w.heap.size + 1) 0 rfl (hptr g) _ (fun wx hSw => blk_range hSw.2.1) Tryd.underlying54 rfl (by kernel_rfl)) hHeld ?_
      try simp only [Act.put, List.setIfInBounds_toArray, List.set_cons_zero, List.set_cons_succ]
      refine wpAnyH_take (i := 1) (oi := ⟨some 211, _, _, _, _, _⟩) (v := _) rfl (by kernel_rfl) (by kernel_rfl) (by kernel_rfl) (fun _ _ _ h => h) (yieldsIf_load_mid (by rfl) 60 _ rfl (w.heap.size + 1 + 1) 0 rfl (rall R P (upd V i (.slice Av nv cv))) _ (fun wx hSw => blk_range hSw.2.2) Tryd.underlying60 rfl (by rw [HRL.out]; kernel_rfl)) hHeld ?_
      try simp only [Act.put, List.setIfInBounds_toArray, List.set_cons_zero, List.set_cons_succ]
      refine wpAnyH_ready (rs := [2]) (by kernel_rfl) (by simp) ?_
      refine AllReadyH.cons (o := ⟨none, _, _, _, _, _⟩) rfl (fun K hK => ?_) AllReadyH.nil
      refine wpr_if (by rfl) ?_
      refine wpr_store 54 _ _ rfl (w.heap.size + 1 + 1 + 1) 0 rfl 54 [] z54 [] (hptr g) rfl (by rw [List.nil_append, List.append_nil]; exact B6E) rfl rfl (by kernel_rfl) (hptr_one _) ?_
      intro wS6 S6 O6
      refine hK.out _ _ (hHeld.keep (O6.block _ (by omega)) (O6.block _ (by omega)) (O6.block _ (by omega))) (fun hHeld => ?_)
      clear hK K
      try simp only [Act.put, List.setIfInBounds_toArray, List.set_cons_zero, List.set_cons_succ]
      refine wpAnyH_ready (rs := [3]) (by kernel_rfl) (by simp) ?_
      refine AllReadyH.cons (o := ⟨none, _, _, _, _, _⟩) rfl (fun K hK => ?_) AllReadyH.nil
      refine wpr_if (by rfl) ?_
      refine wpr_store 60 _ _ rfl (w.heap.size + 1 + 1 + 1 + 1) 0 rfl 60 [] z60 [] (rall R P (upd V i (.slice Av nv cv))) rfl (by rw [List.nil_append, List.append_nil]; exact (Blk.drew (B7E : Blk _ _ 60 z60.toArray)).only O6 (show (w.heap.size + 1 + 1 + 1 + 1) ≠ (w.heap.size + 1 + 1 + 1) by omega)) rfl (by rw [HRL.out]; rfl) (by rw [HRL.out]; kernel_rfl) HRO.out ?_
      intro wS7 S7 O7
      refine hK.out _ _ (hHeld.keep (O7.block _ (by omega)) (O7.block _ (by omega)) (O7.block _ (by omega))) (fun hHeld => ?_)
      clear hK K
      try simp only [Act.put, List.setIfInBounds_toArray, List.set_cons_zero, List.set_cons_succ]
      refine wpAnyH_take (i := 4) (oi := ⟨some 8, _, _, _, _, _⟩) (v := ?_) rfl (by kernel_rfl) (by kernel_rfl) (by kernel_rfl) (fun _ _ _ h => h) (Or.inl ⟨by rfl, ?_⟩) hHeld ?_
      rotate_left
      · intro wx hSw
        go_simp
        all_goals (with_reducible rfl)
      try simp only [Act.put, List.setIfInBounds_toArray, List.set_cons_zero, List.set_cons_succ]
      refine wpAnyH_done (by kernel_rfl) ?_ _
      refine NoPanic.normal ?_
      go_wp2
      rw [List.nil_append, List.append_nil] at S6 S7
      have S6' := S6.only O7 (by omega)
      obtain ⟨FS, hbS⟩ := stepped_of HFE.out.drew (show Below base w wr.drew from ⟨HBE.out.os, HBE.out.tape, HBE.out.output, HBE.out.size, HBE.out.block⟩) O6 O7 (by omega) (by omega) HZE.out HZV.out HKQ.out (by omega) (by omega)
      exact bodyPost_ret (results_list (rs := [.cell 6 54, .cell 7 60, .tmp 8]) rfl (by simp) (.cell (w.heap.size + 1 + 1 + 1) 54 (hptr g).toArray (0, 0) _ rfl S6' Tryd.underlying54 rfl (by kernel_rfl) (.cell (w.heap.size + 1 + 1 + 1 + 1) 60 (rall R P (upd V i (.slice Av nv cv))).toArray (0, 0) _ rfl S7 Tryd.underlying60 rfl (by rw [List.size_toArray, HRL.out]; kernel_rfl) (.tmp .nil)))) rfl ⟨_, _, _, _, _, rfl, FS, hbS.1, hbS.2⟩
end Go.Proofs.YtfedlgcpgfofjaaDoor.Sha
