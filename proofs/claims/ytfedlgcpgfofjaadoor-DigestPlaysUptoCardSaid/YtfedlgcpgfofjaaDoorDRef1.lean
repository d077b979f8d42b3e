/-
  The reference's Hash: New, Size, Write, Save: what the calls do, walked.
-/
import Derived.Test.YtfedlgcpgfofjaaDoorDSave
import Derived.Test.YtfedlgcpgfofjaaDoorDMac
import Derived.Test.YtfedlgcpgfofjaaDoorPAllx7
namespace Go.Proofs.YtfedlgcpgfofjaaDoor.Sha
open Go.RowKit Go.Proofs.YtfedlgcpgfofjaaDoorW.PrintWords Go.Proofs.YtfedlgcpgfofjaaDoor.PAll Go.Proofs.YtfedlgcpgfofjaaDoor.Plain
set_option linter.unusedVariables false
theorem slot_any (n : Int) (w : World) : Calls Tryd.prog 56 #[.int .i64 n] w fun e w' => (∃ i : Nat, i < 4 ∧ e = .returned (.int .i64 (i : Int))) ∧ Drawn0 w w' := by
  refine (wicketlaw02_slot.calls n _ w rfl).mono fun e w' ⟨he, hd⟩ => ⟨?_, hd⟩
  have h1 := Int.tmod_lt_of_pos n (show (0 : Int) < 4 by decide)
  have h2 : -4 < Int.tmod n 4 := by
    have := Int.lt_tmod_of_pos n (show (0 : Int) < 4 by decide)
    omega
  have h3 : wrap64 (Int.tmod n 4 + 4) = Int.tmod n 4 + 4 := w64 (by omega) (by omega)
  rw [h3] at he
  have h4 : Int.tmod (Int.tmod n 4 + 4) 4 = (Int.tmod n 4 + 4) % 4 := Int.tmod_eq_emod_of_nonneg (by omega)
  rw [h4] at he
  refine ⟨((Int.tmod n 4 + 4) % 4).toNat, by omega, ?_⟩
  rw [he, show ((((Int.tmod n 4 + 4) % 4).toNat : Nat) : Int) = (Int.tmod n 4 + 4) % 4 by omega]
theorem rh_one (r : List Nat) (past : Nat) (v : Value) (hv : v.oneCell' = true) : ∀ u ∈ rh r past v, u.oneCell' = true := by
  intro u hu
  unfold rh at hu
  rcases List.mem_append.1 hu with h | h
  · exact one32 _ u h
  · simp only [List.mem_cons, List.not_mem_nil, or_false] at h
    rcases h with h | h
    · rw [h]; rfl
    · rw [h]; exact hv
theorem rh_len (r : List Nat) (past : Nat) (v : Value) (hr : r.length = 8) : (rh r past v).length = 10 := by simp [rh, hr]
theorem rh_cell8 {w : World} {g : Nat} {r : List Nat} {past : Nat} {v : Value} (hr : r.length = 8) (h : Blk w g 58 (rh r past v).toArray) : w.cell? ⟨g, 8, none⟩ = some (.int .u64 (past : Int)) := by
  rw [h.cell, List.getElem?_toArray]
  simp [rh, hr]
theorem rh_cell9 {w : World} {g : Nat} {r : List Nat} {past : Nat} {v : Value} (hr : r.length = 8) (h : Blk w g 58 (rh r past v).toArray) : w.cell? ⟨g, 9, none⟩ = some v := by
  rw [h.cell, List.getElem?_toArray]
  simp [rh, hr]
set_option maxRecDepth 100000 in
set_option maxHeartbeats 400000 in
theorem rnew_any (w : World) : Calls Tryd.prog 41 #[] w fun e w' => e = .returned (.agg (rh first 0 (.slice none 0 0)).toArray) ∧ Below w.heap.size w w' := by
  go_enter Tryd.func41, Tryd.ntmps41
  go_wp2_with (first
    | (go_at_call 46; (with_reducible refine (rbegin_any _).mono ?_); rintro e w1 ⟨rfl, hb1⟩
       have hb1' : Below w.heap.size w w1 := ((Below.refl _ _).alloc (Nat.le_refl _) _).trans (hb1.mono (by simp))
       have B1 : Blk w1 w.heap.size 58 ([] ++ rh (List.replicate 8 0) 0 (.slice none 0 0) ++ []).toArray := (Blk.new w 58 (rh (List.replicate 8 0) 0 (.slice none 0 0)).toArray).below hb1 (by simp))
    | (refine wpl_store rfl 58 _ _ rfl w.heap.size 0 rfl 58 [] (rh (List.replicate 8 0) 0 (.slice none 0 0)) [] (rh first 0 (.slice none 0 0)) rfl B1 rfl rfl (by kernel_rfl) (rh_one _ _ _ rfl) ?_; intro w2 B2 O2))
  exact bodyPost_ret (results_cell_row rfl _ _ w.heap.size 58 (rh first 0 (.slice none 0 0)).toArray (0, 0) _ rfl (by have h9 := B2; rw [List.nil_append, List.append_nil] at h9; exact h9) Tryd.underlying58 rfl (by kernel_rfl)) rfl ⟨rfl, O2.below hb1' (Nat.le_refl _)⟩
set_option maxRecDepth 100000 in
set_option maxHeartbeats 400000 in
theorem rsize_any (r : List Nat) (past n c : Nat) (A : Option Addr) (w : World) (hr : r.length = 8) (hm : past + n ≤ 1153071504606846976) :
    Calls Tryd.prog 44 #[.agg (rh r past (.slice A n c)).toArray] w fun e w' => e = .returned (.int .i64 ((past + n : Nat) : Int)) ∧ Below w.heap.size w w' := by
  have gp : (rh r past (.slice A n c))[8]? = some (.int .u64 (past : Int)) := by simp [rh, hr]
  have gv : (rh r past (.slice A n c))[9]? = some (.slice A n c) := by simp [rh, hr]
  have i0 : (0 : Int) ≤ (past : Int) := by omega
  have i1 : (past : Int) ≤ 1153071504606846976 := by omega
  have i2 : (past : Int) + (n : Int) ≤ 1153071504606846976 := by omega
  clear hr hm
  go_enter Tryd.func44, Tryd.ntmps44
  go_wp2
  go_ret
  exact ⟨rfl, (Below.refl _ _).alloc (Nat.le_refl _) _⟩
set_option maxRecDepth 100000 in
set_option maxHeartbeats 400000 in
theorem rwrite_any (r all p : List Nat) (past n c m d : Nat) (A B : Option Addr) (w : World) (hr : r.length = 8) (hn : n = all.length) (hm : m = p.length) (hmax : n + m ≤ 100000000000000) (hC : C8 w A all.length all) (hD : C8 w B p.length p) :
    Calls Tryd.prog 57 #[.agg (rh r past (.slice A n c)).toArray, .slice B m d] w fun e w' => ∃ A' n' c', e = .returned (.agg (rh r past (.slice A' n' c')).toArray) ∧ Own w' w.heap.size (.slice A' n' c') (all ++ p) ∧ Below w.heap.size w w' := by
  obtain ⟨r0, r1, r2, r3, r4, r5, r6, r7, rfl⟩ := eight_of r hr
  have gv : (rh [r0, r1, r2, r3, r4, r5, r6, r7] past (.slice A n c))[9]? = some (.slice A n c) := rfl
  have HN := Lib.hid hn; have HM := Lib.hid hm; have HC := Lib.hid hC; have HD := Lib.hid hD
  clear hn hm hC hD hr
  go_enter Tryd.func57, Tryd.ntmps57
  go_wp2_with (first
    | (at_builtin; (refine wpl_append rfl _ _ _ rfl info_byte Tryd.underlying22 w.heap.size (.slice (some ⟨w.heap.size + 1 + 1, 0, none⟩) 0 0) [] rfl (Own.of_Blk (p := []) (Blk.new_ _ 5 _ _ (by simp)) (by omega) (by simp)) A c n all rfl HN.out (HC.out.below ((((Below.refl _ _).alloc (Nat.le_refl _) _).alloc (by simp) _).alloc (by simp; omega) _)) (by rw [← HN.out]; simp; omega) (by simp; omega) ?_); intro v1 w1 O1 G1 _
       rw [List.nil_append] at O1
       have hb1 : Below w.heap.size w w1 := ((((Below.refl _ _).alloc (Nat.le_refl _) _).alloc (by simp) _).alloc (by simp; omega) _).grown G1 (by simp; omega) (by simp [Value.ownBlock]; omega)
       have BH1 : Blk w1 w.heap.size 58 (rh [r0, r1, r2, r3, r4, r5, r6, r7] past (.slice A n c)).toArray := (((Blk.new w 58 _).alloc _).alloc _).grown G1 (by simp [Value.ownBlock]; try omega)
       have BZ1 : Blk w1 (w.heap.size + 1) 58 (rh (List.replicate 8 0) 0 (.slice none 0 0)).toArray := ((Blk.new_ (w.alloc _) 58 (rh (List.replicate 8 0) 0 (.slice none 0 0)).toArray _ (by simp)).alloc _).grown G1 (by simp [Value.ownBlock]; try omega)
       have s1 := hb1.size
       clear G1)
    | (at_builtin; go_loud (refine wpl_append rfl _ _ _ rfl info_byte Tryd.underlying22 w.heap.size v1 _ rfl O1 B d m p rfl HM.out (HD.out.below hb1) (by rw [← HN.out, ← HM.out]; omega) s1 ?_); intro v2 w2 O2 G2 _
       have hb2 : Below w.heap.size w w2 := hb1.grown G2 s1 (fun k hk => (O1.lt k hk).1)
       have BH2 := BH1.grown G2 (O1.ne BH1 (by decide))
       have BZ2 : Blk w2 (w.heap.size + 1) 58 ([] ++ rh (List.replicate 8 0) 0 (.slice none 0 0) ++ []).toArray := by
         rw [List.nil_append, List.append_nil]
         exact BZ1.grown G2 (O1.ne BZ1 (by decide))
       have c8_ := rh_cell8 (r := [r0, r1, r2, r3, r4, r5, r6, r7]) rfl BH2
       obtain ⟨A2, n2, c2, hn2, hv2, hC2⟩ := O2.arg_
       subst hv2
       have BL2 : Blk w2 w.heap.size 58 ([] ++ [r0, r1, r2, r3, r4, r5, r6, r7].map v32 ++ [Value.int .u64 (past : Int), Value.slice A n c]).toArray := BH2
       have HBL := Lib.hid BL2; have HBZ := Lib.hid BZ2
       clear G2 O1 hb1 BH1 BZ1 BH2 BL2 BZ2 hn2 hC2)
    | (refine wpl_load rfl 56 _ rfl w.heap.size 0 rfl 58 [] ([r0, r1, r2, r3, r4, r5, r6, r7].map v32) _ HBL.out rfl _ Tryd.underlying56 rfl (by kernel_rfl) ?_)
    | (refine wpl_store rfl 58 _ _ rfl (w.heap.size + 1) 0 rfl 58 [] (rh (List.replicate 8 0) 0 (.slice none 0 0)) [] (rh [r0, r1, r2, r3, r4, r5, r6, r7] past (.slice A2 n2 c2)) rfl HBZ.out rfl rfl (by kernel_rfl) (rh_one _ _ _ rfl) ?_; intro w3 B3 O3))
  exact bodyPost_ret (results_cell_row rfl _ _ (w.heap.size + 1) 58 (rh [r0, r1, r2, r3, r4, r5, r6, r7] past (.slice A2 n2 c2)).toArray (0, 0) _ rfl (by have h9 := B3; rw [List.nil_append, List.append_nil] at h9; exact h9) Tryd.underlying58 rfl (by kernel_rfl)) rfl
    ⟨A2, n2, c2, rfl, O2.only O3 (O2.ne HBZ.out (by decide)), O3.below hb2 (by omega)⟩
end Go.Proofs.YtfedlgcpgfofjaaDoor.Sha
