/-
  text, (*Hash).Size, live: what the calls do, walked.
-/
import Derived.Test.YtfedlgcpgfofjaaDoorDHSum
import Derived.Test.YtfedlgcpgfofjaaDoorPAllx1
import Derived.Test.YtfedlgcpgfofjaaDoorPAllx2
import Derived.Lib.SlBytesConst
namespace Go.Proofs.YtfedlgcpgfofjaaDoor.Sha
open Go.RowKit Go.Proofs.YtfedlgcpgfofjaaDoorW.PrintWords Go.Proofs.YtfedlgcpgfofjaaDoor.PAll
set_option linter.unusedVariables false
theorem C8.lit (w : World) (p : List Nat) (n m : Nat) (fr : Nat × Nat) (hn : w.heap.size = n) (hm : m = p.length) (hl : p.length ≤ 1000000) : C8 (w.alloc (.cells (c8 p) 5 fr)) (some ⟨n, 0, none⟩) m p := by
  subst hn; subst hm
  refine C8.of_Bs (fun j hj => ?_) (by omega)
  rw [Nat.zero_add, cell_of_row _ w.heap.size j (c8 p) 5 fr (heap_alloc_new w _)]
  exact c8_at p j hj
/-- The digits of a sum. -/
def Digs (D : List Nat) (s : ByteArray) : Prop := D.length = 32 ∧ ∃ k, wicketref02_Hex.f k (toI D) = some s
set_option maxRecDepth 100000 in
set_option maxHeartbeats 400000 in
theorem text_any (D : List Nat) (s : ByteArray) (w : World) (h : Digs D s) :
    Calls Tryd.prog 40 #[.agg (D.map v8).toArray] w fun e w' => e = .returned (.string s) ∧ Below w.heap.size w w' := by
  obtain ⟨hl, k, hk⟩ := h
  have hB : Blk (w.alloc (.cells (c8 D) 24)) w.heap.size 24 (c8 D) := Blk.new w 24 (c8 D)
  have hC : C8 (w.alloc (.cells (c8 D) 24)) (some ⟨w.heap.size, 0, none⟩) D.length D := C8.of_Bs (fun j hj => by rw [Nat.zero_add]; exact hB.w8 j hj) (by omega)
  have hcall : Calls Tryd.prog 27 #[.slice (some ⟨w.heap.size, 0, none⟩) 32 32] (w.alloc (.cells (D.map v8).toArray 24)) fun e w' => e = .returned (.string s) ∧ Below (w.heap.size + 1) (w.alloc (.cells (D.map v8).toArray 24)) w' := by
    have h := wicketref02_Hex.calls k (some ⟨w.heap.size, 0, none⟩) 32 (toI D) s (w.alloc (.cells (c8 D) 24)) (by rw [toI_len]; exact hC) (by rw [toI_len]; omega) hk
    rw [toI_len, hl, show (w.alloc (.cells (c8 D) 24)).heap.size = w.heap.size + 1 by simp] at h
    exact h
  have HH := Lib.hid hcall
  clear hB hC hcall hk
  have HL := Lib.hid hl
  clear hl
  go_enter Tryd.func40, Tryd.ntmps40
  go_wp2_with (go_at_call 27; (with_reducible refine HH.out.mono ?_); rintro e w1 ⟨rfl, hb1⟩)
  go_ret
  exact ⟨rfl, ((Below.refl _ _).alloc (Nat.le_refl _) _).trans (hb1.mono (by omega))⟩
set_option maxRecDepth 100000 in
set_option maxHeartbeats 400000 in
theorem size_any (g past : Nat) (r all : List Nat) (w : World) (hr : r.length = 8) (hmax : past + all.length ≤ 1152921504606846976 + 100000000000000) (hH : HashAt w g r past all) :
    Calls Tryd.prog 20 #[.pointer (some ⟨g, 0, none⟩)] w fun e w' => e = .returned (.int .i64 ((past + all.length : Nat) : Int)) ∧ w = w' := by
  obtain ⟨rest, hB, hrl, _, _⟩ := hH
  obtain ⟨tk, htk⟩ : ∃ tk, tk = past + all.length := ⟨_, rfl⟩
  have c72 : w.cell? ⟨g, 72, none⟩ = some (.int .u64 (tk : Int)) := by rw [htk]; exact (hB.cell 72).trans (hcells_72 _ rest _ (regOf_len hr all) hrl)
  rw [← htk] at hmax
  rw [← htk]
  have i0 : (0 : Int) ≤ (tk : Int) := by omega
  have i1 : (tk : Int) ≤ 1153021504606846976 := by omega
  clear hB htk
  go_enter Tryd.func20, Tryd.ntmps20
  go_wp2
  go_ret
  exact ⟨rfl, rfl⟩
theorem abc_digs : Digs (sumOf [97, 98, 99]) ⟨#[98, 97, 55, 56, 49, 54, 98, 102, 56, 102, 48, 49, 99, 102, 101, 97, 52, 49, 52, 49, 52, 48, 100, 101, 53, 100, 97, 101, 50, 50, 50, 51, 98, 48, 48, 51, 54, 49, 97, 51, 57, 54, 49, 55, 55, 97, 57, 99, 98, 52, 49, 48, 102, 102, 54, 49, 102, 50, 48, 48, 49, 53, 97, 100]⟩ := ⟨sumOf_len _, 40, by kernel_rfl⟩
theorem live_b64 : digest_FromBase64.f 80 ⟨#[90, 109, 57, 118]⟩ = some ([102, 111, 111], 0, 0) := by kernel_rfl
theorem live_hex : digest_Hex.f 10 [10, 255] = some ⟨#[48, 97, 102, 102]⟩ := by kernel_rfl
theorem live_foo : strOfNums [102, 111, 111] = ⟨#[102, 111, 111]⟩ := by kernel_rfl
theorem all_dec {B : Nat} {l : List Nat} (h : (l.all fun x => decide (x < B)) = true) : All B l := fun x hx => of_decide_eq_true (List.all_eq_true.1 h x hx)
theorem HashAt.alloc {w : World} {g : Nat} {r all : List Nat} {past : Nat} (h : HashAt w g r past all) (o : Obj) : HashAt (w.alloc o) g r past all := h.keep (Below.heap_alloc w o g h.lt)
theorem HashAt.below {w w' : World} {g : Nat} {r all : List Nat} {past : Nat} (h : HashAt w g r past all) (hb : Below w.heap.size w w') : HashAt w' g r past all := h.keep (hb.block g h.lt)
set_option maxRecDepth 100000 in
set_option maxHeartbeats 1000000 in
theorem live_any (w : World) (ht : Tab1 w) (hf : TabF w) (h1 : 1 < w.heap.size) :
    Calls Tryd.prog 15 #[] w fun e w' => e = .returned (.bool true) ∧ Below w.heap.size w w' := by
  obtain ⟨D, hD⟩ : ∃ D, D = sumOf [97, 98, 99] := ⟨_, rfl⟩
  have hdg : Digs D ⟨#[98, 97, 55, 56, 49, 54, 98, 102, 56, 102, 48, 49, 99, 102, 101, 97, 52, 49, 52, 49, 52, 48, 100, 101, 53, 100, 97, 101, 50, 50, 50, 51, 98, 48, 48, 51, 54, 49, 97, 51, 57, 54, 49, 55, 55, 97, 57, 99, 98, 52, 49, 48, 102, 102, 54, 49, 102, 50, 48, 48, 49, 53, 97, 100]⟩ := by rw [hD]; exact abc_digs
  have hs1 : ∀ (W : World) (A : Option Addr), Below w.heap.size w W → C8 W A 3 [97, 98, 99] → Calls Tryd.prog 14 #[.slice A 3 3] W fun e w' => e = .returned (.agg (D.map v8).toArray) ∧ Below W.heap.size W w' := fun W A hb hC => by
    rw [hD]; exact sum_any [97, 98, 99] A 3 W (by decide) (by decide) (all_dec rfl) hC (ht.below hb h1) (hf.below hb (by omega)) (Nat.lt_of_lt_of_le h1 hb.size)
  have hs2 : ∀ (W : World), Below w.heap.size w W → HashAt W w.heap.size first 0 [97, 98, 99] → Calls Tryd.prog 19 #[.pointer (some ⟨w.heap.size, 0, none⟩)] W fun e w' => e = .returned (.agg (D.map v8).toArray) ∧ Below W.heap.size W w' := fun W hb hH => by
    rw [hD]; exact hsum_any w.heap.size 0 first [97, 98, 99] W first_len first_all rfl (by decide) hH (all_dec rfl) (ht.below hb h1) (Nat.lt_of_lt_of_le h1 hb.size)
  have hw : ∀ (W : World) (all p : List Nat) (g n : Nat), Below w.heap.size w W → HashAt W w.heap.size first 0 all → C8 W (some ⟨g, 0, none⟩) n p → w.heap.size < g → all.length + p.length ≤ 1000 → All 256 all → All 256 p →
      Calls Tryd.prog 18 #[.pointer (some ⟨w.heap.size, 0, none⟩), .slice (some ⟨g, 0, none⟩) n n] W fun e w' => e = .returned (.tuple #[]) ∧ HashAt w' w.heap.size first 0 (all ++ p) ∧ W.grownBy w' (some w.heap.size) := fun W all p g n hb hH hC hg hl ha hp => by
    obtain rfl := hC.len
    exact write_c w.heap.size 0 first all p _ p.length p.length W first_len first_all rfl (by omega) hH ha rfl (Nat.le_refl _) hp hC (fun _ b o e h => by injection e with e; injection e with e; omega) (ht.below hb h1) (Nat.lt_of_lt_of_le h1 hb.size) (by omega)
  have hz : ∀ W : World, HashAt W w.heap.size first 0 [97, 98, 99] → Calls Tryd.prog 20 #[.pointer (some ⟨w.heap.size, 0, none⟩)] W fun e w' => e = .returned (.int .i64 3) ∧ W = w' := fun W h => size_any _ 0 first _ W first_len (by decide) h
  have HZ := Lib.hid hz
  clear hz
  have HS1 := Lib.hid hs1; have HS2 := Lib.hid hs2; have HW := Lib.hid hw; have HDG := Lib.hid hdg; have HF := Lib.hid hf
  clear hs1 hs2 hw hD hdg ht hf
  have kc := fun (w : World) (C : Array Value) (n c : Nat) => Lib.run_convert_bytes_const (P := Tryd.prog) w 22 5 C n c Tryd.underlying22 Tryd.underlying5
  go_enter Tryd.func15, Tryd.ntmps15
  go_wp2_with (first
    | (go_at_call 25; (with_reducible refine (new_any _ HF.out).mono ?_); rintro e w1 ⟨rfl, hw1⟩
       have H1 : HashAt w1 w.heap.size first 0 [] := by rw [← hw1]; exact hash_new w
       have hb1 : Below w.heap.size w w1 := by rw [← hw1]; exact (Below.refl w.heap.size w).alloc (Nat.le_refl _) _
       have z1 : w.heap.size < w1.heap.size := by rw [← hw1]; simp
       clear hw1)
    | (go_at_call 18; (refine (HW.out _ [] [97, 98] _ 2 (hb1.alloc hb1.size _) (H1.alloc _) (C8.lit w1 [97, 98] _ 2 _ rfl rfl (by decide)) z1 (by decide) All.nil (all_dec rfl)).mono ?_); rintro e w2 ⟨rfl, H2, G2⟩
       have hb2 : Below w.heap.size w w2 := (hb1.alloc hb1.size _).grown G2 (by have := hb1.size; simp; omega) (fun k hk => by injection hk; omega)
       have z2 : w.heap.size < w2.heap.size := by have := G2.size; simp at this; omega
       clear H1 G2)
    | (go_at_call 18; (refine (HW.out _ _ [99] _ 1 (hb2.alloc hb2.size _) (H2.alloc _) (C8.lit w2 [99] _ 1 _ rfl rfl (by decide)) z2 (by decide) (all_dec rfl) (all_dec rfl)).mono ?_); rintro e w3 ⟨rfl, H3, G3⟩
       have hb3 : Below w.heap.size w w3 := (hb2.alloc hb2.size _).grown G3 (by have := hb2.size; simp; omega) (fun k hk => by injection hk; omega)
       replace H3 : HashAt w3 w.heap.size first 0 [97, 98, 99] := H3
       clear H2 G3)
    | (go_at_call 28; (with_reducible refine (digest_FromBase64.calls 80 _ [102, 111, 111] 0 0 _ live_b64).mono ?_); rintro e w4 ⟨v4, rfl, HR4, hb4⟩
       have H4 := H3.below hb4
       have hb4' := hb3.trans (hb4.mono hb3.size)
       obtain ⟨A4, c4, hv4, hl4, hC4⟩ := (Own.of_R (p := [102, 111, 111]) HR4).arg
       subst hv4
       clear H3 HR4)
    | (go_at_call 14; (refine (HS1.out _ _ (hb4'.alloc hb4'.size _) (C8.lit w4 [97, 98, 99] _ 3 _ rfl rfl (by decide))).mono ?_); rintro e w5 ⟨rfl, hb5⟩
       have H5 := (H4.alloc _).below hb5
       have hb5' := (hb4'.alloc hb4'.size _).trans (hb5.mono (by have := hb4'.size; simp; omega))
       have hC5 : C8 w5 A4 3 [102, 111, 111] := (hC4.below ((Below.refl _ _).alloc (Nat.le_refl _) _)).below hb5
       have T1 : True := trivial
       clear H4 hC4 hb5)
    | (go_at_call 40; (with_reducible refine (text_any D _ _ HDG.out).mono ?_); rintro e w6 ⟨rfl, hb6⟩
       have H6 := H5.below hb6
       have hb6' := hb5'.trans (hb6.mono hb5'.size)
       have hC6 := hC5.below hb6
       clear H5 T1 hC5 hb6)
    | (go_at_call 19; (with_reducible refine (HS2.out _ hb6' H6).mono ?_); rintro e w7 ⟨rfl, hb7⟩
       have H7 := H6.below hb7
       have hb7' := hb6'.trans (hb7.mono hb6'.size)
       have hC7 := hC6.below hb7
       clear H6 hC6 hb7)
    | (go_at_call 40; (with_reducible refine (text_any D _ _ HDG.out).mono ?_); rintro e w8 ⟨rfl, hb8⟩
       have H8 := H7.below hb8
       have hb8' := hb7'.trans (hb8.mono hb7'.size)
       have hC8 := hC7.below hb8
       clear H7 hC7 hb8)
    | (go_at_call 20; (with_reducible refine (HZ.out _ H8).mono ?_); rintro e w9 ⟨rfl, rfl⟩)
    | (go_at_call 34; (refine (digest_Hex.calls 10 _ 2 [10, 255] _ _ (C8.lit w8 [10, 255] _ 2 _ rfl rfl (by decide)) (by decide) live_hex).mono ?_); rintro e w10 ⟨rfl, hb10⟩
       have hb10' := (hb8'.alloc hb8'.size _).trans (hb10.mono (by have := hb8'.size; simp; omega))
       have hC10 : C8 w10 A4 3 [102, 111, 111] := (hC8.below ((Below.refl _ _).alloc (Nat.le_refl _) _)).below hb10)
    | (go_at_call 31; (with_reducible refine (wicketlaw02_num.calls 0 0 _ rfl).mono ?_); rintro e w11 ⟨rfl, ⟨⟨n11, rfl⟩⟩⟩
       have hcv := Kd.C_string (P := Tryd.prog) (w := w10.drewN n11) (A := A4) (c := c4) Tryd.underlying22 Tryd.underlying5 Tryd.underlying9 (show Kd.C (Kd.int .u8) (w10.drewN n11) A4 3 (toI [102, 111, 111]) from hC10)
       rw [show strOfNums (toI [102, 111, 111]) = ⟨#[102, 111, 111]⟩ from live_foo] at hcv))
  go_ret
  exact ⟨rfl, below_drewN hb10' _⟩
end Go.Proofs.YtfedlgcpgfofjaaDoor.Sha
