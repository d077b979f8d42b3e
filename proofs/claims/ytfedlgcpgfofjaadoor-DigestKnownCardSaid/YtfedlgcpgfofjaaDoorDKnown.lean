/-
  DigestKnown: the sums and keyed sums that everybody knows.
-/
import Derived.Test.YtfedlgcpgfofjaaDoorDKnown0
import Derived.Test.YtfedlgcpgfofjaaDoorDRows
namespace Go.Proofs.YtfedlgcpgfofjaaDoor.Sha
open Go.RowKit Go.Proofs.YtfedlgcpgfofjaaDoorW.PrintWords Go.Proofs.YtfedlgcpgfofjaaDoor.PAll Go.Proofs.YtfedlgcpgfofjaaDoor.Plain
set_option linter.unusedVariables false
theorem bytes_one {D : List Nat} {w : World} {g : Nat} (hB : Blk w g 24 ([] ++ D.map v8 ++ []).toArray) : w.rangeAt g 0 (D.map v8) := range_of_blk hB
set_option maxRecDepth 100000 in
set_option maxHeartbeats 2000000 in
theorem row_known (W : World) (hT : TabsP W) :
    Calls Tryd.prog 10 #[] W fun e w' => e = .returned (.bool true) ∧ Below W.heap.size W w' := by
  obtain ⟨D0, hD0⟩ : ∃ D, D = sumOf [] := ⟨_, rfl⟩
  obtain ⟨D1, hD1⟩ : ∃ D, D = sumOf [97, 98, 99, 100, 98, 99, 100, 101, 99, 100, 101, 102, 100, 101, 102, 103, 101, 102, 103, 104, 102, 103, 104, 105, 103, 104, 105, 106, 104, 105, 106, 107, 105, 106, 107, 108, 106, 107, 108, 109, 107, 108, 109, 110, 108, 109, 110, 111, 109, 110, 111, 112, 110, 111, 112, 113] := ⟨_, rfl⟩
  obtain ⟨D2, hD2⟩ : ∃ D, D = macOf [74, 101, 102, 101] [[119, 104, 97, 116, 32, 100, 111, 32, 121, 97, 32, 119, 97, 110, 116, 32, 102, 111, 114, 32, 110, 111, 116, 104, 105, 110, 103, 63]] := ⟨_, rfl⟩
  obtain ⟨D3, hD3⟩ : ∃ D, D = macOf [107, 101, 121] [[84, 104, 101, 32, 113, 117, 105, 99, 107, 32, 98, 114, 111, 119, 110, 32, 102, 111, 120, 32], [106, 117, 109, 112, 115, 32, 111, 118, 101, 114, 32, 116, 104, 101, 32, 108, 97, 122, 121, 32, 100, 111, 103]] := ⟨_, rfl⟩
  have g0 := known_0
  have g1 := known_1
  have g2 := known_2
  have g3 := known_3
  rw [← hD0] at g0
  rw [← hD1] at g1
  rw [← hD2] at g2
  rw [← hD3] at g3
  have h1 : ∀ (V : World), Below W.heap.size W V → Calls Tryd.prog 15 #[] V fun e w' => e = .returned (.bool true) ∧ Below V.heap.size V w' := fun V hb => live_any V (hT.below hb).1 (hT.below hb).2.1 (hT.below hb).2.2
  have h2 : ∀ (V : World), Below W.heap.size W V → Calls Tryd.prog 14 #[.slice none 0 0] V fun e w' => e = .returned (.agg (D0.map v8).toArray) ∧ Below V.heap.size V w' := fun V hb => by
    rw [hD0]
    exact sum_any [] none 0 V (by decide) (by decide) All.nil (C8.nil _ _) (hT.below hb).1 (hT.below hb).2.1 (hT.below hb).2.2
  have h3 : ∀ (V : World), Below W.heap.size W V → ∀ A, C8 V A 56 [97, 98, 99, 100, 98, 99, 100, 101, 99, 100, 101, 102, 100, 101, 102, 103, 101, 102, 103, 104, 102, 103, 104, 105, 103, 104, 105, 106, 104, 105, 106, 107, 105, 106, 107, 108, 106, 107, 108, 109, 107, 108, 109, 110, 108, 109, 110, 111, 109, 110, 111, 112, 110, 111, 112, 113] → Calls Tryd.prog 14 #[.slice A 56 56] V fun e w' => e = .returned (.agg (D1.map v8).toArray) ∧ Below V.heap.size V w' := fun V hb A hC => by
    rw [hD1]
    exact sum_any [97, 98, 99, 100, 98, 99, 100, 101, 99, 100, 101, 102, 100, 101, 102, 103, 101, 102, 103, 104, 102, 103, 104, 105, 103, 104, 105, 106, 104, 105, 106, 107, 105, 106, 107, 108, 106, 107, 108, 109, 107, 108, 109, 110, 108, 109, 110, 111, 109, 110, 111, 112, 110, 111, 112, 113] A 56 V (by decide) (by decide) (all_dec rfl) hC (hT.below hb).1 (hT.below hb).2.1 (hT.below hb).2.2
  have h4 : ∀ (V : World), Below W.heap.size W V → ∀ A B, C8 V A 4 [74, 101, 102, 101] → CP V B 1 [[119, 104, 97, 116, 32, 100, 111, 32, 121, 97, 32, 119, 97, 110, 116, 32, 102, 111, 114, 32, 110, 111, 116, 104, 105, 110, 103, 63]] → Calls Tryd.prog 23 #[.slice A 4 4, .slice B 1 1] V fun e w' => e = .returned (.agg (D2.map v8).toArray) ∧ Below V.heap.size V w' := fun V hb A B hC hP => by
    rw [hD2]
    exact mac_any [74, 101, 102, 101] [[119, 104, 97, 116, 32, 100, 111, 32, 121, 97, 32, 119, 97, 110, 116, 32, 102, 111, 114, 32, 110, 111, 116, 104, 105, 110, 103, 63]] A 4 4 B 1 1 V rfl (by decide) (by decide) (all_dec rfl) hC rfl (by decide) (fun p hp => by rw [List.mem_singleton.1 hp]; exact all_dec rfl) hP (hT.below hb).1 (hT.below hb).2.1 (hT.below hb).2.2
  have h5 : ∀ (V : World), Below W.heap.size W V → ∀ A B, C8 V A 3 [107, 101, 121] → CP V B 2 [[84, 104, 101, 32, 113, 117, 105, 99, 107, 32, 98, 114, 111, 119, 110, 32, 102, 111, 120, 32], [106, 117, 109, 112, 115, 32, 111, 118, 101, 114, 32, 116, 104, 101, 32, 108, 97, 122, 121, 32, 100, 111, 103]] → Calls Tryd.prog 23 #[.slice A 3 3, .slice B 2 2] V fun e w' => e = .returned (.agg (D3.map v8).toArray) ∧ Below V.heap.size V w' := fun V hb A B hC hP => by
    rw [hD3]
    exact mac_any [107, 101, 121] [[84, 104, 101, 32, 113, 117, 105, 99, 107, 32, 98, 114, 111, 119, 110, 32, 102, 111, 120, 32], [106, 117, 109, 112, 115, 32, 111, 118, 101, 114, 32, 116, 104, 101, 32, 108, 97, 122, 121, 32, 100, 111, 103]] A 3 3 B 2 2 V rfl (by decide) (by decide) (all_dec rfl) hC rfl (by decide) (fun p hp => by rcases List.mem_cons.1 hp with rfl | hp; exact all_dec rfl; rw [List.mem_singleton.1 hp]; exact all_dec rfl) hP (hT.below hb).1 (hT.below hb).2.1 (hT.below hb).2.2
  have G0 := Lib.hid g0; have G1 := Lib.hid g1; have G2 := Lib.hid g2; have G3 := Lib.hid g3
  have H1 := Lib.hid h1; have H2 := Lib.hid h2; have H3 := Lib.hid h3; have H4 := Lib.hid h4; have H5 := Lib.hid h5
  have hl1 : D1.length = 32 := g1.1
  have hl2 : D2.length = 32 := g2.1
  have hl3 : D3.length = 32 := g3.1
  have L1 := Lib.hid hl1; have L2 := Lib.hid hl2; have L3 := Lib.hid hl3
  clear g0 g1 g2 g3 h1 h2 h3 h4 h5 hD0 hD1 hD2 hD3 hl1 hl2 hl3
  have kc := fun (w : World) (C : Array Value) (n c : Nat) => Lib.run_convert_bytes_const (P := Tryd.prog) w 22 5 C n c Tryd.underlying22 Tryd.underlying5
  have kc1 : ∀ (w : World) (o : Obj) (C : Array Value) (n c : Nat), (convert 22 22 (.slice (some ⟨w.heap.size + 1, 0, none⟩) n c)).run Tryd.prog ((w.alloc o).alloc (.cells C 5)) = .ok (.slice (some ⟨w.heap.size + 1, 0, none⟩) n c) ((w.alloc o).alloc (.cells C 5 (C.size, C.size + 1))) := fun w o C n c => by
    have h := kc (w.alloc o) C n c
    rwa [show (w.alloc o).heap.size = w.heap.size + 1 by simp] at h
  have kc2 : ∀ (w : World) (o o' : Obj) (C : Array Value) (n c : Nat), (convert 22 22 (.slice (some ⟨w.heap.size + 1 + 1, 0, none⟩) n c)).run Tryd.prog (((w.alloc o).alloc o').alloc (.cells C 5)) = .ok (.slice (some ⟨w.heap.size + 1 + 1, 0, none⟩) n c) (((w.alloc o).alloc o').alloc (.cells C 5 (C.size, C.size + 1))) := fun w o o' C n c => by
    have h := kc ((w.alloc o).alloc o') C n c
    rwa [show ((w.alloc o).alloc o').heap.size = w.heap.size + 1 + 1 by simp] at h
  go_enter Tryd.func10, Tryd.ntmps10
  go_wp2_with (first
    | (go_at_call 15; (with_reducible refine (H1.out _ (Below.refl _ _)).mono ?_); rintro e w1 ⟨rfl, hb1⟩)
    | (go_at_call 14; (with_reducible refine (H2.out _ hb1).mono ?_); rintro e w2 ⟨rfl, hb2⟩
       have hb2' := hb1.trans (hb2.mono hb1.size)
       clear hb2)
    | (go_at_call 40; (with_reducible refine (text_any D0 _ _ G0.out).mono ?_); rintro e w3 ⟨rfl, hb3⟩
       have hb3' := hb2'.trans (hb3.mono hb2'.size)
       clear hb3 hb2')
    | (go_at_call 14; (refine (H3.out _ (hb3'.alloc hb3'.size _) _ (C8.lit w3 [97, 98, 99, 100, 98, 99, 100, 101, 99, 100, 101, 102, 100, 101, 102, 103, 101, 102, 103, 104, 102, 103, 104, 105, 103, 104, 105, 106, 104, 105, 106, 107, 105, 106, 107, 108, 106, 107, 108, 109, 107, 108, 109, 110, 108, 109, 110, 111, 109, 110, 111, 112, 110, 111, 112, 113] _ 56 _ rfl rfl (by decide))).mono ?_); rintro e w4 ⟨rfl, hb4⟩
       have hb4' := (hb3'.alloc hb3'.size _).trans (hb4.mono (by have := hb3'.size; simp; omega))
       clear hb4 hb3')
    | (refine wpl_store rfl 24 _ _ rfl w4.heap.size 0 rfl 24 [] ((List.replicate 32 0).map v8) [] (D1.map v8) rfl (by rw [List.nil_append, List.append_nil]; exact Blk.new w4 24 (c8 (List.replicate 32 0))) rfl (by rw [List.length_map, L1.out]; rfl) (by rw [List.length_map, L1.out]; kernel_rfl) (v8_one D1) ?_; intro w5 B5 O5
       have hb5 : Below W.heap.size W w5 := O5.below (hb4'.alloc hb4'.size _) hb4'.size
       have z5 := hb5.size
       clear O5 hb4')
    | (go_at_call 23
       (have q1 := C8.lit w5 [74, 101, 102, 101] _ 4 (4, 5) rfl rfl (by decide)
        have q2 := C8.lit (w5.alloc (.cells (c8 [74, 101, 102, 101]) 5 (4, 5))) [119, 104, 97, 116, 32, 100, 111, 32, 121, 97, 32, 119, 97, 110, 116, 32, 102, 111, 114, 32, 110, 111, 116, 104, 105, 110, 103, 63] (w5.heap.size + 1) 28 (28, 29) (by simp) rfl (by decide)
        have q3 := CP.one ((w5.alloc (.cells (c8 [74, 101, 102, 101]) 5 (4, 5))).alloc (.cells (c8 [119, 104, 97, 116, 32, 100, 111, 32, 121, 97, 32, 119, 97, 110, 116, 32, 102, 111, 114, 32, 110, 111, 116, 104, 105, 110, 103, 63]) 5 (28, 29))) [119, 104, 97, 116, 32, 100, 111, 32, 121, 97, 32, 119, 97, 110, 116, 32, 102, 111, 114, 32, 110, 111, 116, 104, 105, 110, 103, 63] _ 28 (w5.heap.size + 1 + 1) (by simp) (by decide) q2
        have hb6 : Below W.heap.size W (((w5.alloc (.cells (c8 [74, 101, 102, 101]) 5 (4, 5))).alloc (.cells (c8 [119, 104, 97, 116, 32, 100, 111, 32, 121, 97, 32, 119, 97, 110, 116, 32, 102, 111, 114, 32, 110, 111, 116, 104, 105, 110, 103, 63]) 5 (28, 29))).alloc (.cells #[.slice (some ⟨w5.heap.size + 1, 0, none⟩) 28 28] 22)) := ((hb5.alloc hb5.size _).alloc (by simp; omega) _).alloc (by simp; omega) _
        refine (H4.out _ hb6 _ _ ((q1.below ((Below.refl _ _).alloc (Nat.le_refl _) _)).below ((Below.refl _ _).alloc (Nat.le_refl _) _)) q3).mono ?_
        rintro e w6 ⟨rfl, hb6'⟩
        have B6 : Blk w6 w4.heap.size 24 ([] ++ D1.map v8 ++ []).toArray := (((B5.alloc _).alloc _).alloc _).below hb6' (((B5.alloc _).alloc _).alloc _).lt
        have hb6w := hb6.trans (hb6'.mono hb6.size)
        clear q1 q2 q3 hb6 hb6' B5 hb5 z5))
    | (refine wpl_store rfl 24 _ _ rfl w6.heap.size 0 rfl 24 [] ((List.replicate 32 0).map v8) [] (D2.map v8) rfl (by rw [List.nil_append, List.append_nil]; exact Blk.new w6 24 (c8 (List.replicate 32 0))) rfl (by rw [List.length_map, L2.out]; rfl) (by rw [List.length_map, L2.out]; kernel_rfl) (v8_one D2) ?_; intro w7 B7 O7
       have hb7 : Below W.heap.size W w7 := O7.below (hb6w.alloc hb6w.size _) hb6w.size
       have z7 := hb7.size
       have B7' := (B6.alloc _).only O7 (by have := B6.lt; omega)
       clear O7 hb6w B6)
    | (go_at_call 23
       (have q1 := C8.lit w7 [107, 101, 121] _ 3 (3, 4) rfl rfl (by decide)
        have q2 := C8.lit (w7.alloc (.cells (c8 [107, 101, 121]) 5 (3, 4))) [84, 104, 101, 32, 113, 117, 105, 99, 107, 32, 98, 114, 111, 119, 110, 32, 102, 111, 120, 32] (w7.heap.size + 1) 20 (20, 21) (by simp) rfl (by decide)
        have q3 := C8.lit ((w7.alloc (.cells (c8 [107, 101, 121]) 5 (3, 4))).alloc (.cells (c8 [84, 104, 101, 32, 113, 117, 105, 99, 107, 32, 98, 114, 111, 119, 110, 32, 102, 111, 120, 32]) 5 (20, 21))) [106, 117, 109, 112, 115, 32, 111, 118, 101, 114, 32, 116, 104, 101, 32, 108, 97, 122, 121, 32, 100, 111, 103] (w7.heap.size + 1 + 1) 23 (23, 24) (by simp) rfl (by decide)
        have q4 := CP.two (((w7.alloc (.cells (c8 [107, 101, 121]) 5 (3, 4))).alloc (.cells (c8 [84, 104, 101, 32, 113, 117, 105, 99, 107, 32, 98, 114, 111, 119, 110, 32, 102, 111, 120, 32]) 5 (20, 21))).alloc (.cells (c8 [106, 117, 109, 112, 115, 32, 111, 118, 101, 114, 32, 116, 104, 101, 32, 108, 97, 122, 121, 32, 100, 111, 103]) 5 (23, 24))) [84, 104, 101, 32, 113, 117, 105, 99, 107, 32, 98, 114, 111, 119, 110, 32, 102, 111, 120, 32] [106, 117, 109, 112, 115, 32, 111, 118, 101, 114, 32, 116, 104, 101, 32, 108, 97, 122, 121, 32, 100, 111, 103] _ _ 20 23 (w7.heap.size + 1 + 1 + 1) (by simp) (by decide) (q2.below ((Below.refl _ _).alloc (Nat.le_refl _) _)) (by decide) q3
        have hb8 : Below W.heap.size W ((((w7.alloc (.cells (c8 [107, 101, 121]) 5 (3, 4))).alloc (.cells (c8 [84, 104, 101, 32, 113, 117, 105, 99, 107, 32, 98, 114, 111, 119, 110, 32, 102, 111, 120, 32]) 5 (20, 21))).alloc (.cells (c8 [106, 117, 109, 112, 115, 32, 111, 118, 101, 114, 32, 116, 104, 101, 32, 108, 97, 122, 121, 32, 100, 111, 103]) 5 (23, 24))).alloc (.cells #[.slice (some ⟨w7.heap.size + 1, 0, none⟩) 20 20, .slice (some ⟨w7.heap.size + 1 + 1, 0, none⟩) 23 23] 22)) := (((hb7.alloc hb7.size _).alloc (by simp; omega) _).alloc (by simp; omega) _).alloc (by simp; omega) _
        refine (H5.out _ hb8 _ _ (((q1.below ((Below.refl _ _).alloc (Nat.le_refl _) _)).below ((Below.refl _ _).alloc (Nat.le_refl _) _)).below ((Below.refl _ _).alloc (Nat.le_refl _) _)) q4).mono ?_
        rintro e w8 ⟨rfl, hb8'⟩
        have B8 : Blk w8 w4.heap.size 24 ([] ++ D1.map v8 ++ []).toArray := ((((B7'.alloc _).alloc _).alloc _).alloc _).below hb8' ((((B7'.alloc _).alloc _).alloc _).alloc _).lt
        have C8' : Blk w8 w6.heap.size 24 ([] ++ D2.map v8 ++ []).toArray := ((((B7.alloc _).alloc _).alloc _).alloc _).below hb8' ((((B7.alloc _).alloc _).alloc _).alloc _).lt
        have hb8w := hb8.trans (hb8'.mono hb8.size)
        clear q1 q2 q3 q4 hb8 hb8' B7 B7' hb7 z7))
    | (refine wpl_store rfl 24 _ _ rfl w8.heap.size 0 rfl 24 [] ((List.replicate 32 0).map v8) [] (D3.map v8) rfl (by rw [List.nil_append, List.append_nil]; exact Blk.new w8 24 (c8 (List.replicate 32 0))) rfl (by rw [List.length_map, L3.out]; rfl) (by rw [List.length_map, L3.out]; kernel_rfl) (v8_one D3) ?_; intro w9 B9 O9
       have hb9 : Below W.heap.size W w9 := O9.below (hb8w.alloc hb8w.size _) hb8w.size
       have z9 := hb9.size
       have B9' := (B8.alloc _).only O9 (by have := B8.lt; omega)
       have C9' := (C8'.alloc _).only O9 (by have := C8'.lt; omega)
       clear O9 hb8w B8 C8')
    | (refine wplw_load (by first | rfl | simp [Region.wanted, yielded]) 24 _ rfl w4.heap.size 0 rfl 24 [] (D1.map v8) [] B9' rfl _ Tryd.underlying24 rfl (by rw [List.length_map, L1.out]; kernel_rfl) ?_
       clear B9')
    | (go_at_call 40; (with_reducible refine (text_any D1 _ _ G1.out).mono ?_); rintro e w10 ⟨rfl, hb10⟩
       have C10 := C9'.below hb10 C9'.lt
       have B10 := B9.below hb10 B9.lt
       have hb10' := hb9.trans (hb10.mono z9)
       clear C9' B9 hb10 hb9)
    | (refine wplw_load (by first | rfl | simp [Region.wanted, yielded]) 24 _ rfl w6.heap.size 0 rfl 24 [] (D2.map v8) [] C10 rfl _ Tryd.underlying24 rfl (by rw [List.length_map, L2.out]; kernel_rfl) ?_
       clear C10)
    | (go_at_call 40; (with_reducible refine (text_any D2 _ _ G2.out).mono ?_); rintro e w11 ⟨rfl, hb11⟩
       have B11 := B10.below hb11 B10.lt
       have hb11' := hb10'.trans (hb11.mono hb10'.size)
       clear B10 hb11 hb10')
    | (refine wplw_load (by first | rfl | simp [Region.wanted, yielded]) 24 _ rfl w8.heap.size 0 rfl 24 [] (D3.map v8) [] B11 rfl _ Tryd.underlying24 rfl (by rw [List.length_map, L3.out]; kernel_rfl) ?_
       clear B11)
    | (go_at_call 40; (with_reducible refine (text_any D3 _ _ G3.out).mono ?_); rintro e w12 ⟨rfl, hb12⟩
       have hb12' := hb11'.trans (hb12.mono hb11'.size)
       have z12 := hb12'.size
       clear hb12 hb11')
    | (go_at_call 33; (refine (digest_Base64.calls 10 _ 2 [251, 255] _ _ (C8.lit w12 [251, 255] _ 2 _ rfl rfl (by decide)) (by decide) known_4).mono ?_); rintro e w13 ⟨rfl, hb13⟩
       have hb13' := (hb12'.alloc hb12'.size _).trans (hb13.mono (by simp; omega))))
  go_ret
  exact ⟨rfl, hb13'⟩
end Go.Proofs.YtfedlgcpgfofjaaDoor.Sha
