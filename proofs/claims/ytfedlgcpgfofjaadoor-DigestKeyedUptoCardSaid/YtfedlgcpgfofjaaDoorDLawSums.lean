/-
  DigestSums: every sum is the document's; what is handed in stays.
-/
import Derived.Test.YtfedlgcpgfofjaaDoorDEq
namespace Go.Proofs.YtfedlgcpgfofjaaDoor.Sha
open Go.RowKit Go.Proofs.YtfedlgcpgfofjaaDoorW.PrintWords Go.Proofs.YtfedlgcpgfofjaaDoor.PAll Go.Proofs.YtfedlgcpgfofjaaDoor.Plain
set_option linter.unusedVariables false
theorem C8.take {w : World} {A : Option Addr} {n : Nat} {p : List Nat} (h : C8 w A n p) (m : Nat) (hm : m ≤ n) : C8 w A m (p.take m) := by
  rcases Nat.eq_zero_or_pos m with h0 | h0
  · subst h0
    rw [List.take_zero]
    exact C8.nil w A
  · have hn := h.len
    obtain ⟨b, o, rfl, hlt, hbs⟩ := h.at_ (by omega)
    have hb : Bs w b o (p.take m) := fun j hj => by
      rw [List.length_take] at hj
      rw [hbs j (by omega), getD_take _ _ _ (by omega)]
    have hl : (p.take m).length = m := by rw [List.length_take]; omega
    have h9 := h.2.1
    have := C8.of_Bs hb (by omega)
    rwa [hl] at this
theorem range_below {w w' : World} {g : Nat} {cs : List Value} (h : w.rangeAt g 0 cs) (hb : Below w.heap.size w w') (hlt : g < w.heap.size) : w'.rangeAt g 0 cs := fun j v hj => (hb.cell (p := ⟨g, 0 + j, none⟩) hlt).trans (h j v hj)
set_option maxRecDepth 100000 in
set_option maxHeartbeats 1000000 in
theorem law_sums (p : List Nat) (A : Option Addr) (c : Nat) (w : World) (hp : p.length ≤ 1000000000000) (hc : p.length ≤ c) (hpa : All 256 p) (hC : C8 w A p.length p) (hT : Tabs w) :
    Calls Tryd.prog 3 #[.slice A p.length c] w fun e w' => e = .returned (.bool true) ∧ Below w.heap.size w w' := by
  obtain ⟨D, hD⟩ : ∃ D, D = sumOf p := ⟨_, rfl⟩
  have hDl : D.length = 32 := by rw [hD]; exact sumOf_len p
  have heq : ∀ W : World, (binOp .eql 24 (.agg (D.map v8).toArray) (.agg (D.map v8).toArray)).run Tryd.prog W = .ok (.bool true) W := fun W => by
    have h := run_eql24 D D hDl hDl W
    rwa [decide_eq_true rfl] at h
  obtain ⟨L, hL⟩ : ∃ L, L = p.length := ⟨_, rfl⟩
  have h1 : ∀ (W : World), Below w.heap.size w W → Calls Tryd.prog 13 #[.slice A L c] W fun e w' => ∃ v, e = .returned v ∧ Own w' W.heap.size v (p ++ marks) ∧ Below W.heap.size W w' := fun W hb => by
    rw [hL]; exact lent_any p A c W (by omega) hc (hC.below hb)
  have h2 : ∀ (W : World) (A' : Option Addr) (c' : Nat), Below w.heap.size w W → C8 W A' L p → L ≤ c' → Calls Tryd.prog 14 #[.slice A' L c'] W fun e w' => e = .returned (.agg (D.map v8).toArray) ∧ Below W.heap.size W w' := fun W A' c' hb hC' hc' => by
    rw [hD]
    rw [hL] at hC' hc' ⊢
    exact sum_any p A' c' W (by omega) hc' hpa hC' (hT.below hb).1 (hT.below hb).2.2.1 (by have := (hT.below hb).2.2.2; omega)
  have h3 : ∀ (W : World), Below w.heap.size w W → Calls Tryd.prog 15 #[] W fun e w' => e = .returned (.bool true) ∧ Below W.heap.size W w' := fun W hb => live_any W (hT.below hb).1 (hT.below hb).2.2.1 (by have := (hT.below hb).2.2.2; omega)
  have h4 : ∀ (W : World) (A' : Option Addr) (n c' : Nat), Below w.heap.size w W → n = L + 64 → C8 W A' n (p ++ marks) → n ≤ c' → Calls Tryd.prog 16 #[.slice A' n c', .slice A L c] W fun e w' => e = .returned (.bool true) ∧ Below W.heap.size W w' := fun W A' n c' hb hn hC' hc' => by
    rw [hL] at hn ⊢
    exact kept_any p A' A n c' c W hn (by omega) hc' hc hC' (hC.below hb)
  have h5 : ∀ (W : World), Below w.heap.size w W → Calls Tryd.prog 17 #[.slice A L c] W fun e w' => e = .returned (.agg (D.map v8).toArray) ∧ Below W.heap.size W w' := fun W hb => by
    rw [hD, hL]
    exact rsum_any p A c W (by omega) hpa (hC.below hb) (hT.below hb).2.1 (hT.below hb).2.2.2
  have H1 := Lib.hid h1; have H2 := Lib.hid h2; have H3 := Lib.hid h3; have H4 := Lib.hid h4; have H5 := Lib.hid h5
  have HDl := Lib.hid hDl; have HL := Lib.hid hL
  rw [← hL] at hp hc
  rw [← hL]
  clear h1 h2 h3 h4 h5 hD hDl hL hC
  have i0 : (0 : Int) ≤ (L : Int) := by omega
  go_enter Tryd.func3, Tryd.ntmps3
  go_wp2_with (first
    | (go_at_call 13; (with_reducible refine (H1.out _ (Below.refl _ _)).mono ?_); rintro e w1 ⟨v1, rfl, O1, hb1⟩
       obtain ⟨A1, c1, hv1, hc1, hC1⟩ := O1.arg
       have hn1 : (p ++ marks).length = L + 64 := by rw [List.length_append, marks_len, ← HL.out]
       rw [hn1] at hv1 hc1 hC1
       subst hv1
       have hpre : C8 w1 A1 L p := by
         have h := hC1.take L (by omega)
         rwa [List.take_left' HL.out.symm] at h
       have j1 : (L : Int) ≤ (c1 : Int) := by omega
       clear hn1 O1)
    | (go_at_call 14; (with_reducible refine (H2.out _ _ _ hb1 hpre (by omega)).mono ?_); rintro e w2 ⟨rfl, hb2⟩
       have hb2' := hb1.trans (hb2.mono hb1.size)
       have hC2 := hC1.below hb2
       clear hC1 hpre hb2)
    | (refine wpl_store rfl 24 _ _ rfl w2.heap.size 0 rfl 24 [] ((List.replicate 32 0).map v8) [] (D.map v8) rfl (by rw [List.nil_append, List.append_nil]; exact Blk.new w2 24 (c8 (List.replicate 32 0))) rfl (by rw [List.length_map, HDl.out]; rfl) (by rw [List.length_map, HDl.out]; kernel_rfl) (v8_one D) ?_; intro w3 B3 O3))
  dsimp only [Act.put]
  have hb3 : Below w.heap.size w w3 := O3.below (hb2'.alloc hb2'.size _) hb2'.size
  have hC3 : C8 w3 A1 (L + 64) (p ++ marks) := hC2.below (O3.below ((Below.refl w2.heap.size w2).alloc (Nat.le_refl _) _) (Nat.le_refl _))
  have hS3 : w3.rangeAt w2.heap.size 0 (D.map v8) := range_of_blk B3
  have hlt3 : w2.heap.size < w3.heap.size := by rw [O3.size]; simp
  clear hC2 hb2' B3
  have hu := Tryd.underlying24
  have hi : (Tryd.prog.info? 24).map (·.size) = some (D.map v8).length := by rw [List.length_map, HDl.out]; kernel_rfl
  have hl32 : (D.map v8).length = 32 := by rw [List.length_map, HDl.out]
  have hone := v8_one D
  go_region_held3 (fun w' => w'.rangeAt w2.heap.size 0 (D.map v8)) (first | assumption | go_keep_ranges)
    (first
      | (go_at_call 15; refine (H3.out _ (by first | exact hb3 | exact hb3.drew | exact below_drewN hb3 _)).mono ?_; rintro e w4 ⟨rfl, hb4⟩
         have hb4w : Below w3.heap.size w3 w4 := ⟨hb4.os, hb4.tape, hb4.output, hb4.size, hb4.block⟩
         have hS4 : w4.rangeAt w2.heap.size 0 (D.map v8) := range_below hS3 hb4w hlt3
         have hb4' := hb3.trans (hb4w.mono hb3.size)
         have hC4 := hC3.below hb4w
         have hlt4 : w2.heap.size < w4.heap.size := Nat.lt_of_lt_of_le hlt3 hb4w.size)
      | (go_at_call 16; refine (H4.out _ A1 (L + 64) c1 (by first | exact hb4' | exact hb4'.drew | exact below_drewN hb4' _) rfl hC4 (by omega)).mono ?_; rintro e w5 ⟨rfl, hb5⟩
         have hb5w : Below w4.heap.size w4 w5 := ⟨hb5.os, hb5.tape, hb5.output, hb5.size, hb5.block⟩
         have hS5 : w5.rangeAt w2.heap.size 0 (D.map v8) := range_below hS4 hb5w hlt4
         have hb5' := hb4'.trans (hb5w.mono hb4'.size)
         have hlt5 : w2.heap.size < w5.heap.size := Nat.lt_of_lt_of_le hlt4 hb5w.size)
      | (go_at_call 17; refine (H5.out _ (by first | exact hb5' | exact hb5'.drew | exact below_drewN hb5' _)).mono ?_; rintro e w6 ⟨rfl, hb6⟩
         have hb6w : Below w5.heap.size w5 w6 := ⟨hb6.os, hb6.tape, hb6.output, hb6.size, hb6.block⟩
         have hS6 : w6.rangeAt w2.heap.size 0 (D.map v8) := range_below hS5 hb6w hlt5
         have hb6' := hb5'.trans (hb6w.mono hb5'.size)))
  go_wp2
  go_ret
  exact ⟨rfl, by first | exact hb6' | exact hb6'.drew | exact below_drewN hb6' _⟩
end Go.Proofs.YtfedlgcpgfofjaaDoor.Sha
