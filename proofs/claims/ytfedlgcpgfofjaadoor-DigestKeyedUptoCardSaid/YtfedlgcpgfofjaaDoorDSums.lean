/-
  New, Begin, the reference's Sum, (*Hash).Sum, Sum: what the calls do, walked.
-/
import Derived.Test.YtfedlgcpgfofjaaDoorDWrite
import Derived.Test.YtfedlgcpgfofjaaDoorDBytes
namespace Go.Proofs.YtfedlgcpgfofjaaDoor.Sha
open Go.RowKit Go.Proofs.YtfedlgcpgfofjaaDoorW.PrintWords
set_option linter.unusedVariables false
def TabF (w : World) : Prop := ∀ j, j < 8 → w.cell? ⟨0, j, none⟩ = some (v32 (first.getD j 0))
theorem TabF.below {w w' : World} {B : Nat} (h : TabF w) (hb : Below B w w') (hB : 0 < B) : TabF w' := fun j hj => (hb.cell (p := ⟨0, j, none⟩) hB).trans (h j hj)
theorem first_len : first.length = 8 := rfl
theorem first_all : All 4294967296 first := by intro x hx; revert x; decide
set_option maxRecDepth 100000 in
set_option maxHeartbeats 400000 in
theorem new_any (w : World) (hf : TabF w) :
    Calls Tryd.prog 25 #[] w fun e w' => e = .returned (.pointer (some ⟨w.heap.size, 0, none⟩)) ∧ w.alloc (.cells (hcells first (List.replicate 64 0) 0).toArray 76) = w' := by
  have q0 : w.cell? ⟨0, 0, none⟩ = some (.int .u32 1779033703) := hf 0 (by decide)
  have q1 : w.cell? ⟨0, 1, none⟩ = some (.int .u32 3144134277) := hf 1 (by decide)
  have q2 : w.cell? ⟨0, 2, none⟩ = some (.int .u32 1013904242) := hf 2 (by decide)
  have q3 : w.cell? ⟨0, 3, none⟩ = some (.int .u32 2773480762) := hf 3 (by decide)
  have q4 : w.cell? ⟨0, 4, none⟩ = some (.int .u32 1359893119) := hf 4 (by decide)
  have q5 : w.cell? ⟨0, 5, none⟩ = some (.int .u32 2600822924) := hf 5 (by decide)
  have q6 : w.cell? ⟨0, 6, none⟩ = some (.int .u32 528734635) := hf 6 (by decide)
  have q7 : w.cell? ⟨0, 7, none⟩ = some (.int .u32 1541459225) := hf 7 (by decide)
  have H := Lib.hid hf
  clear hf
  go_enter Tryd.func25, Tryd.ntmps25
  go_wp2
  go_ret
  exact ⟨rfl, rfl⟩
set_option maxRecDepth 100000 in
set_option maxHeartbeats 400000 in
theorem rbegin_any (w : World) :
    Calls Tryd.prog 46 #[] w fun e w' => e = .returned (.agg #[.int .u32 1779033703, .int .u32 3144134277, .int .u32 1013904242, .int .u32 2773480762, .int .u32 1359893119, .int .u32 2600822924, .int .u32 528734635, .int .u32 1541459225]) ∧ Below w.heap.size w w' := by
  go_enter Tryd.func46, Tryd.ntmps46
  go_wp2
  exact bodyPost_ret (results_cell_row rfl _ _ w.heap.size 56 _ (0, 0) _ rfl (Blk.new w 56 _) Tryd.underlying56 rfl (by kernel_rfl)) rfl ⟨rfl, (Below.refl _ _).alloc (Nat.le_refl _) _⟩
/-- The sum of bytes. -/
def sumOf (p : List Nat) : List Nat := total first 0 p
theorem total_len (r : List Nat) (past : Nat) (p : List Nat) (hr : r.length = 8) : (total r past p).length = 32 := by unfold total; rw [bytesR_len, blocks_len hr]
theorem total_all (r : List Nat) (past : Nat) (p : List Nat) : All 256 (total r past p) := bytesR_all _
theorem sumOf_len (p : List Nat) : (sumOf p).length = 32 := total_len _ _ _ first_len
theorem sumOf_all (p : List Nat) : All 256 (sumOf p) := total_all _ _ _
set_option maxRecDepth 100000 in
set_option maxHeartbeats 400000 in
theorem rsum_any (p : List Nat) (A : Option Addr) (c : Nat) (w : World) (hp : p.length ≤ 100000000000000) (hpa : All 256 p) (hbs : C8 w A p.length p) (ht : Tab2 w) (h2 : 2 < w.heap.size) :
    Calls Tryd.prog 17 #[.slice A p.length c] w fun e w' => e = .returned (.agg ((sumOf p).map v8).toArray) ∧ Below w.heap.size w w' := by
  obtain ⟨D, hD⟩ : ∃ D, D = sumOf p := ⟨_, rfl⟩
  have hDl : D.length = 32 := by rw [hD]; exact sumOf_len p
  have hcall : ∀ W : World, Below w.heap.size w W → Calls Tryd.prog 43 #[.agg #[.int .u32 1779033703, .int .u32 3144134277, .int .u32 1013904242, .int .u32 2773480762, .int .u32 1359893119, .int .u32 2600822924, .int .u32 528734635, .int .u32 1541459225, .int .u64 0, .slice A p.length c]] W fun e w' => e = .returned (.agg (D.map v8).toArray) ∧ Below W.heap.size W w' := fun W hb => by
    rw [hD]
    exact rtotal_any first p 0 A c W first_len first_all hp hpa (by decide) (hbs.below hb) (ht.below hb h2) (Nat.lt_of_lt_of_le h2 hb.size)
  rw [← hD]
  have HC := Lib.hid hcall; have HDl := Lib.hid hDl; have HBS := Lib.hid hbs; have HT := Lib.hid ht
  clear hcall hD hDl hbs ht
  go_enter Tryd.func17, Tryd.ntmps17
  go_wp2_with (first
    | (go_at_call 46; (with_reducible refine (rbegin_any _).mono ?_); rintro e w1 ⟨rfl, hb1⟩
       have hbw1 : Below w.heap.size w w1 := ((Below.refl _ _).alloc (Nat.le_refl _) _).trans (hb1.mono (by simp))
       have BZ1 : Blk w1 w.heap.size 24 (c8 (List.replicate 32 0)) := (Blk.new w 24 (c8 (List.replicate 32 0))).below hb1 (by simp))
    | (go_at_call 43; (with_reducible refine (HC.out _ hbw1).mono ?_); rintro e w2 ⟨rfl, hb2⟩
       have BZ2 : Blk w2 w.heap.size 24 ([] ++ (List.replicate 32 0).map v8 ++ []).toArray := BZ1.below hb2 BZ1.lt
       have hbw2 := hbw1.trans (hb2.mono hbw1.size))
    | (refine wpl_store rfl 24 _ _ rfl w.heap.size 0 rfl 24 [] ((List.replicate 32 0).map v8) [] (D.map v8) rfl BZ2 rfl (by rw [List.length_map, HDl.out]; rfl) (by rw [List.length_map, HDl.out]; kernel_rfl) (v8_one D) ?_; intro w9 B9 O9))
  exact bodyPost_ret (results_cell_row rfl _ _ w.heap.size 24 (D.map v8).toArray (0, 0) _ rfl (by have h9 := B9; rw [List.nil_append, List.append_nil] at h9; exact h9) Tryd.underlying24 rfl (by rw [show (D.map v8).toArray.size = 32 by simp [HDl.out]]; kernel_rfl)) rfl ⟨rfl, O9.below hbw2 (Nat.le_refl _)⟩
set_option maxRecDepth 100000 in
set_option maxHeartbeats 400000 in
theorem write_none (g : Nat) (A : Option Addr) (c : Nat) (w : World) :
    Calls Tryd.prog 18 #[.pointer (some ⟨g, 0, none⟩), .slice A 0 c] w fun e w' => e = .returned (.tuple #[]) ∧ w = w' := by
  go_enter Tryd.func18, Tryd.ntmps18
  go_wp2
  go_loopw [1] (fun v wr => v = .slice A 0 c ∧ w = wr) (fun v _ => 0)
  case atStart => exact ⟨rfl, rfl⟩
  case round =>
    obtain ⟨rfl, rfl⟩ := hrel
    go_wp2
    go_end0
    exact ⟨rfl, rfl⟩
/-- Write, whatever comes in. -/
theorem write_c (g past : Nat) (r all p : List Nat) (A : Option Addr) (n c : Nat) (w : World) (hr : r.length = 8) (hra : All 4294967296 r) (hpast : past % 64 = 0) (hmax : past + all.length + p.length ≤ 2305843009213693952)
    (hH : HashAt w g r past all) (hall : All 256 all) (hn : n = p.length) (hpc : n ≤ c) (hpa : All 256 p) (hC : C8 w A p.length p) (hbg : 0 < p.length → ∀ b o, A = some ⟨b, o, none⟩ → b ≠ g) (ht : Tab1 w) (h1 : 1 < w.heap.size) (h1g : 1 ≠ g) :
    Calls Tryd.prog 18 #[.pointer (some ⟨g, 0, none⟩), .slice A n c] w fun e w' => e = .returned (.tuple #[]) ∧ HashAt w' g r past (all ++ p) ∧ w.grownBy w' (some g) := by
  subst hn
  rcases Nat.eq_zero_or_pos p.length with h0 | h0
  · have hp : p = [] := List.eq_nil_of_length_eq_zero h0
    subst hp
    refine (write_none g A c w).mono fun e w' ⟨he, hw⟩ => ?_
    subst hw
    exact ⟨he, by rw [List.append_nil]; exact hH, World.grownBy.refl w _⟩
  · obtain ⟨b, o, rfl, hb, hbs⟩ := hC.at_ h0
    exact write_any g past r all p b o c w hr hra hpast hmax hH hall h0 hpc hpa hbs hb (hbg h0 b o rfl) ht h1 h1g
end Go.Proofs.YtfedlgcpgfofjaaDoor.Sha
