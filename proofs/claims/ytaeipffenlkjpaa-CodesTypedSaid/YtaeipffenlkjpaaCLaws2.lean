/-
  CodesTyped, CodesAll: what the calls do, walked; as the rows hand them on.
-/
import Derived.Test.YtaeipffenlkjpaaCLive
namespace Go.Proofs.Ytaeipffenlkjpaa.Sha
open Go.RowKit Go.Proofs.YtaeipffenlkjpaaW.PrintWords Go.Proofs.Ytaeipffenlkjpaa.PAll Go.Proofs.Ytaeipffenlkjpaa.Plain Go.Proofs.Ytaeipffenlkjpaa.Cod
set_option linter.unusedVariables false
set_option linter.unusedSimpArgs false
set_option maxRecDepth 100000 in
set_option maxHeartbeats 2000000 in
theorem typed_law (p how : List Nat) (A0 : Option Addr) (n0 c0 : Nat) (A1 : Option Addr) (n1 c1 : Nat) (W : World) (hn0 : n0 = p.length) (hn1 : n1 = how.length) (hl1 : n1 ≤ 140737488355328) (hp : All 256 p) (hh : All 256 how) (hc0 : n0 ≤ c0) (hc1 : n1 ≤ c1) (hC0 : C8 W A0 p.length p) (hC1 : C8 W A1 how.length how) :
    Calls Try.prog 5 #[.slice A0 n0 c0, .slice A1 n1 c1] W fun e w' => e = .returned (.bool true) ∧ Below W.heap.size W w' := by
  have h1 := newSource_any (fun _ => 0) 1 p A0 n0 c0 W hn0 hc0 hp hC0
  obtain ⟨L, hL⟩ : ∃ L, L = fed [] p := ⟨_, rfl⟩
  rw [← hL] at h1
  have hcode := user_code [] L (by simp) (fun x hx => by cases hx)
  have herr := user_err [] L
  have h2 := fun (V : World) (f : Nat → Nat) (g : Nat) (h : Src V f 1 g L) => user_any f 1 g L V h
  obtain ⟨U, hU⟩ : ∃ U, U = user [] L := ⟨_, rfl⟩
  rw [← hU] at hcode herr h2
  have H1 := Lib.hid h1
  rcases herr with h0 | ⟨h90, hnil, hrest⟩
  · have hc := hcode h0
    have hs := isCode_spec.1 hc
    obtain ⟨C, hC⟩ : ∃ C, C = txt U.1 := ⟨_, rfl⟩
    have hsC : sN C = U.1 := by rw [hC]; exact sN_txt _ (isCode_256 hs.2)
    rw [← hC, h0, show ((0 : Nat) : Int) = 0 from rfl] at h2
    have hsize : C.size = 8 := by rw [← sN_len, hsC]; exact hs.1
    have h3 : ∀ V : World, Calls Try.prog 13 #[.string C] V fun e w' => e = .returned (.tuple #[.string C, .int .i64 0]) ∧ Below V.heap.size V w' := fun V => by
      have h := normal_any C V
      rw [hsC, normal_code _ hc, ← hC] at h
      exact h
    obtain ⟨SH, hSH⟩ : ∃ SH, SH = txt (shown U.1) := ⟨_, rfl⟩
    have hshl : All 256 (shown U.1) := by
      unfold shown
      rw [if_pos hc]
      exact All.app (All.app (All.take (isCode_256 hs.2) 4) (All.one (by decide))) (All.drop (isCode_256 hs.2) 4)
    have h4 : ∀ V : World, Calls Try.prog 15 #[.string C] V fun e w' => e = .returned (.string SH) ∧ Below V.heap.size V w' := fun V => by
      have h := show_any C V
      rw [hsC, ← hSH] at h
      exact h
    have h5 : ∀ V : World, Calls Try.prog 13 #[.string SH] V fun e w' => e = .returned (.tuple #[.string C, .int .i64 0]) ∧ Below V.heap.size V w' := fun V => by
      have h := normal_any SH V
      rw [hSH, sN_txt _ hshl, normal_shown _ hc, ← hC] at h
      rw [hSH]
      exact h
    obtain ⟨TY, hTY⟩ : ∃ TY, TY = txt (typedL how U.1 0) := ⟨_, rfl⟩
    have htl : ∀ (s : List Nat) (i : Nat), (∀ x ∈ s, x ∈ lets) → All 256 (typedL how s i) := by
      intro s
      induction s with
      | nil => exact fun i _ => All.nil
      | cons c s ih =>
        intro i h
        unfold typedL
        exact All.app (one_all c _ (h c (by simp))) (ih (i + 1) fun x hx => h x (by simp [hx]))
    have h6 : ∀ V : World, Below W.heap.size W V → Calls Try.prog 19 #[.string C, .slice A1 n1 c1] V fun e w' => e = .returned (.string TY) ∧ Below V.heap.size V w' := fun V hb => by
      have h := typed_any C how A1 n1 c1 V (by rw [hsC]; exact hc) hn1 hc1 hl1 hh (hC1.below hb)
      rw [hsC, ← hTY] at h
      exact h
    have h7 : ∀ V : World, Calls Try.prog 13 #[.string TY] V fun e w' => e = .returned (.tuple #[.string C, .int .i64 0]) ∧ Below V.heap.size V w' := fun V => by
      have h := normal_any TY V
      rw [hTY, sN_txt _ (htl _ 0 hs.2), normal_typed how _ hc, ← hC] at h
      rw [hTY]
      exact h
    have h8 : ∀ V : World, Calls Try.prog 20 #[.string C] V fun e w' => e = .returned (.bool true) ∧ Below V.heap.size V w' := fun V => by
      have h := rcode_any C V (by omega)
      rw [hsC, hc] at h
      exact h
    have H2 := Lib.hid h2; have H3 := Lib.hid h3; have H4 := Lib.hid h4; have H5 := Lib.hid h5; have H6 := Lib.hid h6; have H7 := Lib.hid h7; have H8 := Lib.hid h8
    clear h1 h2 h3 h4 h5 h6 h7 h8 hL hcode hU h0 hc hs hC hsC hsize hSH hshl hTY htl hn0 hn1 hp hh hC0 hC1
    go_enter Try.func5, Try.ntmps5
    go_wp2_with (first
      | (go_at_call 18; (refine H1.out.mono ?_); rintro e w1 ⟨g, rfl, hg, S1, hb1⟩)
      | (go_at_call 17; (with_reducible refine (H2.out _ _ g S1).mono ?_); rintro e w2 ⟨rfl, S2, F2⟩
         have hb2 : Below W.heap.size W w2 := hb1.trans (F2.below (fun n hn e => by omega) hb1.size)
         clear S1)
      | (go_at_call 12; (with_reducible refine (live_any _).mono ?_); rintro e w3 ⟨rfl, hb3⟩
         have hb3' := hb2.trans (hb3.mono hb2.size))
      | (go_at_call 11; (with_reducible refine (num_q _ _).mono ?_); rintro e w5 ⟨rfl, rfl⟩)
      | (go_at_call 13; (with_reducible refine (H3.out _).mono ?_); rintro e w4 ⟨rfl, hb4⟩
         have hb4' := hb3'.trans (hb4.mono hb3'.size))
      | (go_at_call 15; (with_reducible refine (H4.out _).mono ?_); rintro e w5 ⟨rfl, hb5⟩
         have hb5' := hb4'.trans (hb5.mono hb4'.size))
      | (go_at_call 13; (with_reducible refine (H5.out _).mono ?_); rintro e w6 ⟨rfl, hb6⟩
         have hb6' := hb5'.trans (hb6.mono hb5'.size))
      | (go_at_call 19; (with_reducible refine (H6.out _ hb6').mono ?_); rintro e w7 ⟨rfl, hb7⟩
         have hb7' := hb6'.trans (hb7.mono hb6'.size))
      | (go_at_call 13; (with_reducible refine (H7.out _).mono ?_); rintro e w8 ⟨rfl, hb8⟩
         have hb8' := hb7'.trans (hb8.mono hb7'.size))
      | (go_at_call 20; (with_reducible refine (H8.out _).mono ?_); rintro e w9 ⟨rfl, hb9⟩
         have hb9' := hb8'.trans (hb9.mono hb8'.size)))
    go_ret
    exact ⟨rfl, hb9'⟩
  · rw [h90, hnil, show txt [] = ⟨#[]⟩ from rfl, show ((90 : Nat) : Int) = 90 from rfl] at h2
    have H2 := Lib.hid h2
    clear h1 h2 hL hcode hU h90 hnil hrest hn0 hn1 hp hh hC0 hC1
    go_enter Try.func5, Try.ntmps5
    go_wp2_with (first
      | (go_at_call 18; (refine H1.out.mono ?_); rintro e w1 ⟨g, rfl, hg, S1, hb1⟩)
      | (go_at_call 17; (with_reducible refine (H2.out _ _ g S1).mono ?_); rintro e w2 ⟨rfl, S2, F2⟩
         have hb2 : Below W.heap.size W w2 := hb1.trans (F2.below (fun n hn e => by omega) hb1.size)
         clear S1)
      | (go_at_call 12; (with_reducible refine (live_any _).mono ?_); rintro e w3 ⟨rfl, hb3⟩
         have hb3' := hb2.trans (hb3.mono hb2.size))
      | (go_at_call 11; (with_reducible refine (num_q _ _).mono ?_); rintro e w5 ⟨rfl, rfl⟩))
    go_ret
    exact ⟨rfl, hb3'⟩
theorem row_typed (a0 a1 : List Int) (o0 : a0.length * 1 ≤ 140737488351232 ∧ ∀ y, y ∈ a0 → (Lit.int .u8 y).wf = true) (o1 : a1.length * 1 ≤ 140737488351232 ∧ ∀ y, y ∈ a1 → (Lit.int .u8 y).wf = true) (W : World) (A0 : Option Addr) (c0 : Nat) (A1 : Option Addr) (c1 : Nat)
    (hr0 : Kd.C (Kd.int .u8) W A0 a0.length a0) (hc0 : a0.length ≤ c0) (hr1 : Kd.C (Kd.int .u8) W A1 a1.length a1) (hc1 : a1.length ≤ c1) :
    Calls Try.prog 5 #[.slice A0 a0.length c0, .slice A1 a1.length c1] W fun e w' => e = .returned (.bool true) ∧ Below W.heap.size W w' := by
  obtain ⟨g1, g2⟩ := bytes_of_ok o0.2
  obtain ⟨k1, k2⟩ := bytes_of_ok o1.2
  exact typed_law (toN a0) (toN a1) A0 _ c0 A1 _ c1 W (toN_len a0).symm (toN_len a1).symm (by omega) g2 k2 hc0 hc1 (by show Kd.C _ _ _ _ _; rw [g1, toN_len]; exact hr0) (by show Kd.C _ _ _ _ _; rw [k1, toN_len]; exact hr1)
end Go.Proofs.Ytaeipffenlkjpaa.Sha
