/-
  DigestPlays: one step of play: Save.
-/
import Derived.Test.YtfedlgcpgfofjaaDoorDPlay1
namespace Go.Proofs.YtfedlgcpgfofjaaDoor.Sha
open Go.RowKit Go.Proofs.YtfedlgcpgfofjaaDoorW.PrintWords Go.Proofs.YtfedlgcpgfofjaaDoor.PAll Go.Proofs.YtfedlgcpgfofjaaDoor.Plain
set_option linter.unusedVariables false
set_option linter.unusedSimpArgs false
set_option maxRecDepth 100000 in
set_option maxHeartbeats 4000000 in
theorem play_save (hh tt : Int) (i j : Nat) (p : List Nat) (B : Option Addr) (n c : Nat) (g : Nat → Nat) (R : Nat → List Nat) (P : Nat → Nat) (A : Nat → List Nat) (V : Nat → Value) (base M : Nat) (w : World) (hi : i < 4) (hj : j < 4)
    (hsi : ∀ W : World, Calls Tryd.prog 56 #[.int .i64 hh] W fun e w' => e = .returned (.int .i64 (i : Int)) ∧ W = w') (hsj : ∀ W : World, Calls Tryd.prog 56 #[.int .i64 tt] W fun e w' => e = .returned (.int .i64 (j : Int)) ∧ W = w')
    (hn : n = p.length) (hnc : n ≤ c) (hnM : M + n ≤ 3000000) (hM : 64 ≤ M) (hpa : All 256 p) (hC : ∀ U : World, Below base w U → C8 U B p.length p) (hbase : base ≤ w.heap.size) (hF : Four w base M g R P A V) (hT : Tabs w) (h2b : 2 < base) :
    Calls Tryd.prog 42 #[.agg #[.int .i64 6, .int .i64 hh, .int .i64 tt, .slice B n c], .agg (hptr g).toArray, .agg (rall R P V).toArray] w (Stepped base (M + n) w g) := by
  have H1 := Lib.hid hsi; have H2 := Lib.hid hsj
  have HN := Lib.hid hn; have HPA := Lib.hid hpa; have HC := Lib.hid hC; have HF := Lib.hid hF; have HT := Lib.hid hT
  clear hsi hsj hn hpa hC hF hT
  go_enter Tryd.func42, Tryd.ntmps42
  go_upto_region 1 with fail
  obtain ⟨w0, hw0⟩ : ∃ W : World, W = (((((w.alloc (.cells #[.int .i64 6, .int .i64 hh, .int .i64 tt, .slice B n c] 64)).alloc (.cells (hptr g).toArray 54)).alloc (.cells (rall R P V).toArray 60)).alloc (.cells z54.toArray 54)).alloc (.cells z60.toArray 60)) := ⟨_, rfl⟩
  change Code.wp _ _ _ _ (((((w.alloc (.cells #[.int .i64 6, .int .i64 hh, .int .i64 tt, .slice B n c] 64)).alloc (.cells (hptr g).toArray 54)).alloc (.cells (rall R P V).toArray 60)).alloc (.cells z54.toArray 54)).alloc (.cells z60.toArray 60))
  rw [← hw0]
  have z0 : w0.heap.size = w.heap.size + 5 := by rw [hw0]; simp
  have BO0 : Blk w0 w.heap.size 64 #[.int .i64 6, .int .i64 hh, .int .i64 tt, .slice B n c] := by rw [hw0]; exact ((((Blk.new w 64 _).alloc _).alloc _).alloc _).alloc _
  have BH0 : Blk w0 (w.heap.size + 1) 54 (hptr g).toArray := by rw [hw0]; exact (((Blk.new_ (w.alloc _) 54 _ _ (by simp)).alloc _).alloc _).alloc _
  have BR0 : Blk w0 (w.heap.size + 1 + 1) 60 (rall R P V).toArray := by rw [hw0]; exact ((Blk.new_ _ 60 _ _ (by simp)).alloc _).alloc _
  have B60 : Blk w0 (w.heap.size + 1 + 1 + 1) 54 z54.toArray := by rw [hw0]; exact (Blk.new_ _ 54 _ _ (by simp)).alloc _
  have B70 : Blk w0 (w.heap.size + 1 + 1 + 1 + 1) 60 z60.toArray := by rw [hw0]; exact Blk.new_ _ 60 _ _ (by simp)
  have hb0 : Below w.heap.size w w0 := by rw [hw0]; exact (((((Below.refl _ _).alloc (Nat.le_refl _) _).alloc (by simp) _).alloc (by simp; omega) _).alloc (by simp; omega) _).alloc (by simp; omega) _
  clear hw0
  have c1 : w0.cell? ⟨w.heap.size, 1, none⟩ = some (.int .i64 hh) := BO0.cell 1
  have c2 : w0.cell? ⟨w.heap.size, 2, none⟩ = some (.int .i64 tt) := BO0.cell 2
  go_quiet ((go_at_call 56; first | exact quiet_left (H1.out _) | exact quiet_left (H2.out _) | exact quiet_add_left (H1.out _) | exact quiet_add_left (H2.out _)))
  obtain ⟨w1, hw1⟩ : ∃ W : World, W = w0.drewN nq := ⟨_, rfl⟩
  rw [← hw1]
  have z1 : w1.heap.size = w.heap.size + 5 := by rw [hw1]; exact z0
  have BO1 : Blk w1 w.heap.size 64 #[.int .i64 6, .int .i64 hh, .int .i64 tt, .slice B n c] := by rw [hw1]; exact BO0.drewN nq
  have BH1 : Blk w1 (w.heap.size + 1) 54 (hptr g).toArray := by rw [hw1]; exact BH0.drewN nq
  have BR1 : Blk w1 (w.heap.size + 1 + 1) 60 (rall R P V).toArray := by rw [hw1]; exact BR0.drewN nq
  have B61 : Blk w1 (w.heap.size + 1 + 1 + 1) 54 z54.toArray := by rw [hw1]; exact B60.drewN nq
  have B71 : Blk w1 (w.heap.size + 1 + 1 + 1 + 1) 60 z60.toArray := by rw [hw1]; exact B70.drewN nq
  have hb1 : Below w.heap.size w w1 := by rw [hw1]; exact below_drewN hb0 nq
  have F1 := HF.out.keep hb1
  have T1 := HT.out.below hb1
  have HFL := Lib.hid F1.lens
  have Z1 := Lib.hid z1
  clear BO0 BH0 BR0 B60 B70 hb0 z0 c1 c2 hw1 z1
  have c0 : w1.cell? ⟨w.heap.size, 0, none⟩ = some (.int .i64 6) := BO1.cell 0
  have i0 : (0 : Int) ≤ (i : Int) := by omega
  have i4 : (i : Int) < 4 := by omega
  have j0 : (0 : Int) ≤ (j : Int) := by omega
  have j4 : (j : Int) < 4 := by omega
  have HRL := Lib.hid (rall_len R P V F1.lens)
  have HRO := Lib.hid (rall_one R P V F1.ones)
  have z1 := Z1.out
  have q1 : w1.cell? ⟨w.heap.size + 1, i, none⟩ = some (.pointer (some ⟨g i, 0, none⟩)) := (BH1.cell i).trans (hptr_at g i hi)
  have p1 := F1.each i hi
  obtain ⟨Ai, ci, hVi, hlei, hCi⟩ := p1.own.arg
  obtain ⟨SV, hSV⟩ : ∃ D, D = saveOf (R i) (P i) (A i) := ⟨_, rfl⟩
  have hSVl : SV.length = 104 := by rw [hSV]; exact saveOf_len _ _ _ p1.len
  have hSVa : All 256 SV := by rw [hSV]; unfold saveOf; exact ((bytesR_all _).app ((tailOf_all p1.byte).app (All.rep (by decide) _))).app (eight_all _)
  have hmost := p1.most
  have hfew := p1.few
  have hsv : ∀ U : World, Below w1.heap.size w1 U → Calls Tryd.prog 22 #[.pointer (some ⟨g i, 0, none⟩)] U fun e w' => ∃ A' n' c', e = .returned (.slice A' n' c') ∧ Own w' U.heap.size (.slice A' n' c') SV ∧ Below U.heap.size U w' := fun U hb => by
    rw [hSV]
    refine (save_any (g i) (P i) (R i) (A i) U p1.len p1.reg p1.mod (by omega) (p1.hash.below hb) p1.byte).mono fun e w' ⟨v, he, hO, hb⟩ => ?_
    obtain ⟨A', n', c', _, rfl, _⟩ := hO.arg_
    exact ⟨A', n', c', he, hO, hb⟩
  have hrs : ∀ U : World, Below w1.heap.size w1 U → Calls Tryd.prog 58 #[.agg (rh (R i) (P i) (V i)).toArray] U fun e w' => ∃ A' n' c', e = .returned (.slice A' n' c') ∧ Own w' U.heap.size (.slice A' n' c') SV ∧ Below U.heap.size U w' := fun U hb => by
    rw [hSV, hVi]
    refine (rsave_any (R i) (A i) (P i) _ ci Ai U p1.len p1.reg p1.byte rfl hlei (by omega) hfew (hCi.below hb) (T1.below hb).2.1 (T1.below hb).2.2.2).mono fun e w' ⟨v, he, hO, hb⟩ => ?_
    obtain ⟨A', n', c', _, rfl, _⟩ := hO.arg_
    exact ⟨A', n', c', he, hO, hb⟩
  have hsame : ∀ (U : World) (B1 B2 : Option Addr) (n1 n2 c1 c2 b1 b2 : Nat), Own U b1 (.slice B1 n1 c1) SV → Own U b2 (.slice B2 n2 c2) SV → Calls Tryd.prog 32 #[.slice B1 n1 c1, .slice B2 n2 c2] U fun e w' => e = .returned (.bool true) ∧ Below U.heap.size U w' := fun U B1 B2 n1 n2 c1 c2 b1 b2 h1 h2 => by
    have h := eqs_any SV SV B1 B2 n1 n2 c1 c2 U (Own.c8 h1).1 (Own.c8 h2).1 (Own.c8 h1).2.1 (Own.c8 h2).2.1 hSVa hSVa (Own.c8 h1).2.2 (Own.c8 h2).2.2
    rwa [decide_eq_true rfl] at h
  have HSV := Lib.hid hsv; have HRS := Lib.hid hrs; have HSM := Lib.hid hsame; have HF1 := Lib.hid F1; have HSL := Lib.hid hSVl
  clear hsv hrs hsame hSV p1 hVi hCi hlei T1 hmost hfew F1 hSVl hSVa
  go_upto_region 26 with (first
    | (go_at_call 22; (with_reducible refine (HSV.out w1 (Below.refl _ _)).mono ?_); rintro e w2 ⟨Ab, nb, cb, rfl, Ob2, hb2⟩
       have q2 : w2.cell? ⟨w.heap.size + 1, i, none⟩ = some (.pointer (some ⟨g i, 0, none⟩)) := (hb2.cell (p := ⟨w.heap.size + 1, i, none⟩) (by show w.heap.size + 1 < w1.heap.size; omega)).trans q1
       have s2 := hb2.size
       clear q1 c0)
    | (go_at_call 22; (with_reducible refine (HSV.out w2 hb2).mono ?_); rintro e w3 ⟨Ac, nc, cc, rfl, Oc3, hb3⟩
       have Ob3 := Ob2.below hb3
       have hb3' : Below w1.heap.size w1 w3 := hb2.trans (hb3.mono s2)
       have s3 := hb3.size
       have lb : ∀ k, (Value.slice Ab nb cb).ownBlock = some k → w1.heap.size ≤ k ∧ k < w2.heap.size := fun k hk => Ob2.lt k hk
       have LB := Lib.hid lb
       clear q2 Ob2 hb2 lb hb3))
  have BO3 := BO1.below hb3' BO1.lt
  have BH3 := BH1.below hb3' BH1.lt
  have BR3 := BR1.below hb3' BR1.lt
  have lt13 : w1.heap.size ≤ w3.heap.size := by omega
  refine wp_region_noPanic ?_
  refine wp_region_held_drew (S := Held3 w.heap.size (w.heap.size + 1) (w.heap.size + 1 + 1) [.int .i64 6, .int .i64 hh, .int .i64 tt, .slice B n c] (hptr g) (rall R P V)) (by kernel_rfl) ?_ (fun hHeld => ?_)
  · exact ⟨BO3, BH3, BR3⟩
  refine wpAnyH_take (i := 0) (oi := ⟨some 126, _, _, _, _, _⟩) (v := _) rfl (by kernel_rfl) (by kernel_rfl) (by kernel_rfl) (fun _ _ _ h => h) (yieldsIf_load_mid (by rfl) 54 _ rfl (w.heap.size + 1) 0 rfl (hptr g) _ (fun wx hSw => blk_range hSw.2.1) Tryd.underlying54 rfl (by kernel_rfl)) hHeld ?_
  try simp only [Act.put, List.setIfInBounds_toArray, List.set_cons_zero, List.set_cons_succ]
  refine wpAnyH_take (i := 1) (oi := ⟨some 127, _, _, _, _, _⟩) (v := _) rfl (by kernel_rfl) (by kernel_rfl) (by kernel_rfl) (fun _ _ _ h => h) (yieldsIf_load_mid (by rfl) 60 _ rfl (w.heap.size + 1 + 1) 0 rfl (rall R P V) _ (fun wx hSw => blk_range hSw.2.2) Tryd.underlying60 rfl (by rw [HRL.out]; kernel_rfl)) hHeld ?_
  try simp only [Act.put, List.setIfInBounds_toArray, List.set_cons_zero, List.set_cons_succ]
  refine wpAnyH_take (i := 2) (oi := ⟨some 128, _, _, _, _, _⟩) (v := ?_) rfl (by kernel_rfl) (by kernel_rfl) (by kernel_rfl) (fun _ _ _ h => h) (Or.inl ⟨by rfl, ?_⟩) hHeld ?_
  rotate_left
  · intro wx hSw
    go_simp
    all_goals (with_reducible rfl)
  try simp only [Act.put, List.setIfInBounds_toArray, List.set_cons_zero, List.set_cons_succ]
  refine wpAnyH_take (i := 3) (oi := ⟨some 129, _, _, _, _, _⟩) (v := ?_) rfl (by kernel_rfl) (by kernel_rfl) (by kernel_rfl) (fun _ _ _ h => h) (Or.inl ⟨by rfl, ?_⟩) hHeld ?_
  rotate_left
  · intro wx hSw
    go_simp
    all_goals (with_reducible rfl)
  try simp only [Act.put, List.setIfInBounds_toArray, List.set_cons_zero, List.set_cons_succ]
  refine wpAnyH_take (i := 4) (oi := ⟨some 130, _, _, _, _, _⟩) (v := ?_) rfl (by kernel_rfl) (by kernel_rfl) (by kernel_rfl) (fun _ _ _ h => h) (Or.inl ⟨by rfl, ?_⟩) hHeld ?_
  rotate_left
  · intro wx hSw
    go_simp
    all_goals (with_reducible rfl)
  try simp only [Act.put, List.setIfInBounds_toArray, List.set_cons_zero, List.set_cons_succ]
  refine wpAnyH_take (i := 5) (oi := ⟨some 131, _, _, _, _, _⟩) (v := _) rfl (by kernel_rfl) (by kernel_rfl) (by kernel_rfl) (fun _ _ _ h => h) (yieldsIf_load_mid (by rfl) 58 _ rfl (w.heap.size + 1 + 1) (i * 10) rfl (rh (R i) (P i) (V i)) _ (fun wx hSw => rall_range hSw.2.2 HFL.out hi) Tryd.underlying58 rfl (by rw [rh_len _ _ _ (HFL.out i hi)]; kernel_rfl)) hHeld ?_
  try simp only [Act.put, List.setIfInBounds_toArray, List.set_cons_zero, List.set_cons_succ]
  refine wpAnyH_ready (rs := [6]) (by kernel_rfl) (by simp) ?_
  refine AllReadyH.cons (o := ⟨some 132, _, _, _, _, _⟩) rfl (fun K hK => ?_) AllReadyH.nil
  go_simp
  have hb3d : Below w1.heap.size w1 w3.drew := ⟨hb3'.os, hb3'.tape, hb3'.output, hb3'.size, hb3'.block⟩
  refine (HRS.out _ hb3d).mono ?_
  rintro e w4 ⟨Ar, nr, cr, rfl, Or4, hb4⟩
  have hb4w : Below w3.heap.size w3 w4 := ⟨hb4.os, hb4.tape, hb4.output, hb4.size, hb4.block⟩
  have hb4' : Below w1.heap.size w1 w4 := hb3'.trans (hb4w.mono lt13)
  have Ob4 := Ob3.below hb4w
  have Oc4 := Oc3.below hb4w
  refine hK.out _ _ (hHeld.below hb4) (fun hHeld => ?_)
  clear hK K
  try simp only [Act.put, List.setIfInBounds_toArray, List.set_cons_zero, List.set_cons_succ]
  refine wpAnyH_ready (rs := [7]) (by kernel_rfl) (by simp) ?_
  refine AllReadyH.cons (o := ⟨some 133, _, _, _, _, _⟩) rfl (fun K hK => ?_) AllReadyH.nil
  go_simp
  refine (HSM.out _ _ _ _ _ _ _ _ _ Ob4 Or4).mono ?_
  rintro e w5 ⟨rfl, hb5⟩
  have hb5' : Below w1.heap.size w1 w5 := hb4'.trans (hb5.mono hb4'.size)
  have Ob5 := Ob4.below hb5
  have Oc5 := Oc4.below hb5
  have s45 := hb5.size
  have s4 := hb4w.size
  refine hK.out _ _ (hHeld.below hb5) (fun hHeld => ?_)
  clear hK K
  try simp only [Act.put, List.setIfInBounds_toArray, List.set_cons_zero, List.set_cons_succ]
  refine wpAnyH_take (i := 8) (oi := ⟨some 134, _, _, _, _, _⟩) (v := ?_) rfl (by kernel_rfl) (by kernel_rfl) (by kernel_rfl) (fun _ _ _ h => h) (Or.inl ⟨by rfl, ?_⟩) hHeld ?_
  rotate_left
  · intro wx hSw
    go_simp
    all_goals (with_reducible rfl)
  try simp only [Act.put, List.setIfInBounds_toArray, List.set_cons_zero, List.set_cons_succ]
  refine wpAnyH_take (i := 9) (oi := ⟨some 135, _, _, _, _, _⟩) (v := ?_) rfl (by kernel_rfl) (by kernel_rfl) (by kernel_rfl) (fun _ _ _ h => h) (Or.inl ⟨by rfl, ?_⟩) hHeld ?_
  rotate_left
  · intro wx hSw
    go_simp
    all_goals (with_reducible rfl)
  try simp only [Act.put, List.setIfInBounds_toArray, List.set_cons_zero, List.set_cons_succ]
  refine wpAnyH_take (i := 10) (oi := ⟨some 136, _, _, _, _, _⟩) (v := ?_) rfl (by kernel_rfl) (by kernel_rfl) (by kernel_rfl) (fun _ _ _ h => h) (Or.inl ⟨by rfl, ?_⟩) hHeld ?_
  rotate_left
  · intro wx hSw
    go_simp
    all_goals (with_reducible rfl)
  try simp only [Act.put, List.setIfInBounds_toArray, List.set_cons_zero, List.set_cons_succ]
  refine wpAnyH_ready (rs := [11]) (by kernel_rfl) (by simp) ?_
  refine AllReadyH.cons (o := ⟨some 137, _, _, _, _, _⟩) rfl (fun K hK => ?_) AllReadyH.nil
  go_simp
  refine (HSM.out _ _ _ _ _ _ _ _ _ Oc5 Ob5).mono ?_
  rintro e w6 ⟨rfl, hb6⟩
  have hb6' : Below w1.heap.size w1 w6 := hb5'.trans (hb6.mono hb5'.size)
  have Ob6 := Ob5.below hb6
  have Oc6 := Oc5.below hb6
  have s56 := hb6.size
  refine hK.out _ _ (hHeld.below hb6) (fun hHeld => ?_)
  clear hK K
  try simp only [Act.put, List.setIfInBounds_toArray, List.set_cons_zero, List.set_cons_succ]
  refine wpAnyH_take (i := 12) (oi := ⟨some 138, _, _, _, _, _⟩) (v := ?_) rfl (by kernel_rfl) (by kernel_rfl) (by kernel_rfl) (fun _ _ _ h => h) (Or.inl ⟨by rfl, ?_⟩) hHeld ?_
  rotate_left
  · intro wx hSw
    go_simp
    all_goals (with_reducible rfl)
  try simp only [Act.put, List.setIfInBounds_toArray, List.set_cons_zero, List.set_cons_succ]
  refine wpAnyH_take (i := 13) (oi := ⟨some 139, _, _, _, _, _⟩) (v := ?_) rfl (by kernel_rfl) (by kernel_rfl) (by kernel_rfl) (fun _ _ _ h => h) (Or.inl ⟨by rfl, ?_⟩) hHeld ?_
  rotate_left
  · intro wx hSw
    go_simp
    all_goals (with_reducible rfl)
  try simp only [Act.put, List.setIfInBounds_toArray, List.set_cons_zero, List.set_cons_succ]
  refine wpAnyH_take (i := 14) (oi := ⟨some 140, _, _, _, _, _⟩) (v := ?_) rfl (by kernel_rfl) (by kernel_rfl) (by kernel_rfl) (fun _ _ _ h => h) (Or.inl ⟨by rfl, ?_⟩) hHeld ?_
  rotate_left
  · intro wx hSw
    go_simp
    all_goals (with_reducible rfl)
  try simp only [Act.put, List.setIfInBounds_toArray, List.set_cons_zero, List.set_cons_succ]
  refine wpAnyH_take (i := 15) (oi := ⟨some 141, _, _, _, _, _⟩) (v := ?_) rfl (by kernel_rfl) (by kernel_rfl) (by kernel_rfl) (fun _ _ _ h => h) (Or.inl ⟨by rfl, ?_⟩) hHeld ?_
  rotate_left
  · intro wx hSw
    go_simp
    all_goals (with_reducible rfl)
  try simp only [Act.put, List.setIfInBounds_toArray, List.set_cons_zero, List.set_cons_succ]
  refine wpAnyH_ready (rs := [16]) (by kernel_rfl) (by simp) ?_
  refine AllReadyH.cons (o := ⟨some 142, _, _, _, _, _⟩) rfl (fun K hK => ?_) AllReadyH.nil
  go_simp
  refine hK.out _ _ (hHeld.below ((Below.refl _ _).alloc (Nat.le_refl _) _)) (fun hHeld => ?_)
  clear hK K
  try simp only [Act.put, List.setIfInBounds_toArray, List.set_cons_zero, List.set_cons_succ]
  refine wpAnyH_ready (rs := [17]) (by kernel_rfl) (by simp) ?_
  refine AllReadyH.cons (o := ⟨some 143, _, _, _, _, _⟩) rfl (fun K hK => ?_) AllReadyH.nil
  go_simp
  obtain ⟨F, hFam⟩ := Fam.of_apart (w := w6) (base := w1.heap.size) (N := 2) (vs := fun l => if l = 0 then Value.slice Ab nb cb else Value.slice Ac nc cc) (ps := fun _ => SV)
    (fun l hl => by by_cases e : l = 0 <;> simp only [e, if_pos, if_neg, not_false_iff, ↓reduceIte] <;> first | exact own_weaken Ob6 (Nat.le_refl _) | exact own_weaken Oc6 s2)
    (fun l l' hl hl' hne => by
      have ha : Apart (Value.slice Ab nb cb) (Value.slice Ac nc cc) := fun k h1 h2 => by have := LB.out k h1; have := own_base Oc3 k h2; omega
      by_cases e : l = 0
      · have e' : ¬ l' = 0 := by omega
        simp only [e, if_neg e', ↓reduceIte]
        exact ha
      · have e' : l' = 0 := by omega
        simp only [e', if_neg e, ↓reduceIte]
        exact fun k h1 h2 => ha k h2 h1)
  have hFam' := hFam.below ((Below.refl _ _).alloc (Nat.le_refl _) (.cells #[.slice Ab nb cb, .slice Ac nc cc] 22))
  refine (alone_any w1.heap.size 2 w6.heap.size F _ _ #[.slice Ab nb cb, .slice Ac nc cc] _ (by decide) (Blk.new w6 22 _) (fun l hl => by rcases l with _ | _ | l <;> first | rfl | omega) hFam' (by simp; omega) (fun l hl => by rw [HSL.out]; decide)).mono ?_
  rintro e w8 ⟨rfl, hb8⟩
  have hb7' : Below w1.heap.size w1 (w6.alloc (.cells #[.slice Ab nb cb, .slice Ac nc cc] 22)) := hb6'.alloc (by omega) _
  have hb8' : Below w1.heap.size w1 w8 := hb7'.trans hb8
  refine hK.out _ _ (hHeld.keep (hb8.block _ (by omega)) (hb8.block _ (by omega)) (hb8.block _ (by omega))) (fun hHeld => ?_)
  clear hK K
  try simp only [Act.put, List.setIfInBounds_toArray, List.set_cons_zero, List.set_cons_succ]
  refine wpAnyH_take (i := 18) (oi := ⟨some 144, _, _, _, _, _⟩) (v := ?_) rfl (by kernel_rfl) (by kernel_rfl) (by kernel_rfl) (fun _ _ _ h => h) (Or.inl ⟨by rfl, ?_⟩) hHeld ?_
  rotate_left
  · intro wx hSw
    go_simp
    all_goals (with_reducible rfl)
  try simp only [Act.put, List.setIfInBounds_toArray, List.set_cons_zero, List.set_cons_succ]
  have B6E := B61.below hb8' B61.lt
  have B7E := B71.below hb8' B71.lt
  have FE := (HF1.out.keep hb8').more (show M ≤ M + n by omega)
  have hbW : Below w.heap.size w w8 := hb1.trans (hb8'.mono (by omega))
  have hbE : Below base w w8 := hbW.mono hbase
  have HKQ : Hid (∀ q, q < w.heap.size → (∀ k, k < 4 → g k ≠ q) → w8.heap[q]? = w.heap[q]?) := fun q h1 _ => (hbW).block q h1
  have HZE : Hid (∀ k, k < 4 → g k ≠ w.heap.size + 1 + 1 + 1 ∧ g k ≠ w.heap.size + 1 + 1 + 1 + 1) := fun k hk => by have := (HF.out.each k hk).hash.lt; omega
  have HZV : Hid (∀ k, k < 4 → ∀ x, (V k).ownBlock = some x → x ≠ w.heap.size + 1 + 1 + 1 ∧ x ≠ w.heap.size + 1 + 1 + 1 + 1) := fun k hk x hx => by have := own_lt (HF.out.each k hk).own x hx; omega
  refine wpAnyH_ready (rs := [19]) (by kernel_rfl) (by simp) ?_
  refine AllReadyH.cons (o := ⟨none, _, _, _, _, _⟩) rfl (fun K hK => ?_) AllReadyH.nil
  refine wpr_if (by rfl) ?_
  refine wpr_store 54 _ _ rfl (w.heap.size + 1 + 1 + 1) 0 rfl 54 [] z54 [] (hptr g) rfl (by rw [List.nil_append, List.append_nil]; exact B6E) rfl rfl (by kernel_rfl) (hptr_one _) ?_
  intro wS6 S6 O6
  refine hK.out _ _ (hHeld.keep (O6.block _ (by omega)) (O6.block _ (by omega)) (O6.block _ (by omega))) (fun hHeld => ?_)
  clear hK K
  try simp only [Act.put, List.setIfInBounds_toArray, List.set_cons_zero, List.set_cons_succ]
  refine wpAnyH_ready (rs := [20]) (by kernel_rfl) (by simp) ?_
  refine AllReadyH.cons (o := ⟨none, _, _, _, _, _⟩) rfl (fun K hK => ?_) AllReadyH.nil
  refine wpr_if (by rfl) ?_
  refine wpr_store 60 _ _ rfl (w.heap.size + 1 + 1 + 1 + 1) 0 rfl 60 [] z60 [] (rall R P V) rfl (by rw [List.nil_append, List.append_nil]; exact ((B7E : Blk _ _ 60 z60.toArray)).only O6 (show (w.heap.size + 1 + 1 + 1 + 1) ≠ (w.heap.size + 1 + 1 + 1) by omega)) rfl (by rw [HRL.out]; rfl) (by rw [HRL.out]; kernel_rfl) HRO.out ?_
  intro wS7 S7 O7
  refine hK.out _ _ (hHeld.keep (O7.block _ (by omega)) (O7.block _ (by omega)) (O7.block _ (by omega))) (fun hHeld => ?_)
  clear hK K
  try simp only [Act.put, List.setIfInBounds_toArray, List.set_cons_zero, List.set_cons_succ]
  refine wpAnyH_take (i := 21) (oi := ⟨some 8, _, _, _, _, _⟩) (v := ?_) rfl (by kernel_rfl) (by kernel_rfl) (by kernel_rfl) (fun _ _ _ h => h) (Or.inl ⟨by rfl, ?_⟩) hHeld ?_
  rotate_left
  · intro wx hSw
    go_simp
    all_goals (with_reducible rfl)
  try simp only [Act.put, List.setIfInBounds_toArray, List.set_cons_zero, List.set_cons_succ]
  refine wpAnyH_done (by kernel_rfl) ?_ _
  refine NoPanic.normal ?_
  go_wp2
  rw [List.nil_append, List.append_nil] at S6 S7
  have S6' := S6.only O7 (by omega)
  obtain ⟨FS, hbS⟩ := stepped_of FE hbE O6 O7 (by omega) (by omega) HZE.out HZV.out HKQ.out (by omega) (by omega)
  exact bodyPost_ret (results_list (rs := [.cell 6 54, .cell 7 60, .tmp 8]) rfl (by simp) (.cell (w.heap.size + 1 + 1 + 1) 54 (hptr g).toArray (0, 0) _ rfl S6' Tryd.underlying54 rfl (by kernel_rfl) (.cell (w.heap.size + 1 + 1 + 1 + 1) 60 (rall R P V).toArray (0, 0) _ rfl S7 Tryd.underlying60 rfl (by rw [List.size_toArray, HRL.out]; kernel_rfl) (.tmp .nil)))) rfl ⟨_, _, _, _, _, rfl, FS, hbS.1, hbS.2⟩
end Go.Proofs.YtfedlgcpgfofjaaDoor.Sha
