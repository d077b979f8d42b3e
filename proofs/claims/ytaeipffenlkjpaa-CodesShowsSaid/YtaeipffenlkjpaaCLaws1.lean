/-
  CodesNames, CodesShows, CodesNil: what the calls do, walked; as the rows hand them on.
-/
import Derived.Test.YtaeipffenlkjpaaCLive
namespace Go.Proofs.Ytaeipffenlkjpaa.Sha
open Go.RowKit Go.Proofs.YtaeipffenlkjpaaW.PrintWords Go.Proofs.Ytaeipffenlkjpaa.PAll Go.Proofs.Ytaeipffenlkjpaa.Plain Go.Proofs.Ytaeipffenlkjpaa.Cod
set_option linter.unusedVariables false
set_option linter.unusedSimpArgs false
theorem row_names (W : World) : Calls Try.prog 3 #[] W fun e w' => e = .returned (.bool true) ∧ Below W.heap.size W w' := by
  go_enter Try.func3, Try.ntmps3
  go_wp2_with (first
    | (go_at_call 11; (with_reducible refine (num_q _ _).mono ?_); rintro e w5 ⟨rfl, rfl⟩)
    | (go_at_call 12; (with_reducible refine (live_any _).mono ?_); rintro e w6 ⟨rfl, hb6⟩))
  go_ret
  exact ⟨rfl, hb6⟩
set_option maxHeartbeats 1000000 in
theorem row_shows (a0 : ByteArray) (o0 : a0.size ≤ 140737488351232) (W : World) : Calls Try.prog 4 #[.string a0] W fun e w' => e = .returned (.bool true) ∧ Below W.heap.size W w' := by
  have h1 := fun V : World => normal_any a0 V
  have h2 := fun V : World => rnormal_any a0 V
  have h3 := fun V : World => show_any a0 V
  have h4 := fun V : World => rshow_any a0 V (by omega)
  obtain ⟨N, hN⟩ : ∃ N, N = normal (sN a0) := ⟨_, rfl⟩
  rw [← hN] at h1 h2
  obtain ⟨T1, hT1⟩ : ∃ T1, T1 = txt N.1 := ⟨_, rfl⟩
  obtain ⟨T2, hT2⟩ : ∃ T2, T2 = txt (shown (sN a0)) := ⟨_, rfl⟩
  obtain ⟨m, hm⟩ : ∃ m, m = N.2 := ⟨_, rfl⟩
  rw [← hT1, ← hm] at h1 h2
  rw [← hT2] at h3 h4
  have H1 := Lib.hid h1; have H2 := Lib.hid h2; have H3 := Lib.hid h3; have H4 := Lib.hid h4
  clear h1 h2 h3 h4 hN hT1 hT2 hm
  go_enter Try.func4, Try.ntmps4
  go_wp2_with (first
    | (go_at_call 13; (with_reducible refine (H1.out _).mono ?_); rintro e w1 ⟨rfl, hb1⟩)
    | (go_at_call 14; (with_reducible refine (H2.out _).mono ?_); rintro e w2 ⟨rfl, hb2⟩
       have hb2' := hb1.trans (hb2.mono hb1.size))
    | (go_at_call 15; (with_reducible refine (H3.out _).mono ?_); rintro e w3 ⟨rfl, hb3⟩
       have hb3' := hb2'.trans (hb3.mono hb2'.size))
    | (go_at_call 16; (with_reducible refine (H4.out _).mono ?_); rintro e w4 ⟨rfl, hb4⟩
       have hb4' := hb3'.trans (hb4.mono hb3'.size))
    | (go_at_call 11; (with_reducible refine (num_q _ _).mono ?_); rintro e w5 ⟨rfl, rfl⟩)
    | (go_at_call 12; (with_reducible refine (live_any _).mono ?_); rintro e w6 ⟨rfl, hb6⟩
       have hb6' := hb4'.trans (hb6.mono hb4'.size)))
  go_ret
  exact ⟨rfl, hb6'⟩
set_option maxHeartbeats 1000000 in
theorem row_nil (a0 : List Int) (o0 : a0.length * 1 ≤ 140737488351232 ∧ ∀ y, y ∈ a0 → (Lit.int .u8 y).wf = true) (W : World) (A0 : Option Addr) (c0 : Nat)
    (hr : Kd.C (Kd.int .u8) W A0 a0.length a0) (hc : a0.length ≤ c0) :
    Calls Try.prog 10 #[.slice A0 a0.length c0] W fun e w' => e = .returned (.bool true) ∧ Below W.heap.size W w' := by
  clear hr hc
  go_enter Try.func10, Try.ntmps10
  go_wp2_with (first
    | (go_at_call 28; (with_reducible refine (feed_nil _ _).mono ?_); rintro e w1 ⟨rfl, rfl⟩)
    | (go_at_call 29; (with_reducible refine (byte_nil _ none (.inl rfl)).mono ?_); rintro e w1 ⟨rfl, rfl⟩)
    | (go_at_call 23; (with_reducible refine (device_nil _).mono ?_); rintro e w1 ⟨rfl, rfl⟩)
    | (go_at_call 24; (with_reducible refine (auth_nil _).mono ?_); rintro e w1 ⟨rfl, rfl⟩)
    | (go_at_call 17; (with_reducible refine (user_nil _).mono ?_); rintro e w1 ⟨rfl, rfl⟩)
    | (go_at_call 22; (with_reducible refine (left_nil _).mono ?_); rintro e w1 ⟨rfl, rfl⟩)
    | (go_at_call 11; (with_reducible refine (num_q _ _).mono ?_); rintro e w5 ⟨rfl, rfl⟩)
    | (go_at_call 12; (with_reducible refine (live_any _).mono ?_); rintro e w6 ⟨rfl, hb6⟩))
  go_ret
  exact ⟨rfl, hb6⟩
end Go.Proofs.Ytaeipffenlkjpaa.Sha
