/-
  wicketlaw09.live: what the call does, walked.
-/
import Derived.Test.YtaeipffenlkjpaaCTyped
namespace Go.Proofs.Ytaeipffenlkjpaa.Sha
open Go.RowKit Go.Proofs.YtaeipffenlkjpaaW.PrintWords Go.Proofs.Ytaeipffenlkjpaa.PAll Go.Proofs.Ytaeipffenlkjpaa.Plain Go.Proofs.Ytaeipffenlkjpaa.Cod
set_option linter.unusedVariables false
set_option linter.unusedSimpArgs false
def L0 : List Nat := [0, 19, 20, 239, 240, 1, 2, 3, 4]
def CD : ByteArray := ⟨#[66, 90, 66, 90, 67, 68, 70, 71]⟩
theorem L0_fed : fed [] L0 = L0 := rfl
theorem L0_all : All 256 L0 := all_dec (by decide)
theorem L0_user : (user [] L0).2 = (0, []) := by decide +kernel
theorem L0_code : txt (user [] L0).1 = CD := by kernel_rfl
theorem CD_show : txt (shown (sN CD)) = ⟨#[66, 90, 66, 90, 45, 67, 68, 70, 71]⟩ := by kernel_rfl
theorem live_n1 : txt (normal (sN ⟨#[98, 122, 45, 98, 122, 32, 99, 100, 102, 103]⟩)).1 = CD := by kernel_rfl
theorem live_n1e : (normal (sN ⟨#[98, 122, 45, 98, 122, 32, 99, 100, 102, 103]⟩)).2 = 0 := by kernel_rfl
theorem live_n2 : txt (normal (sN ⟨#[98, 122, 45, 98, 122, 32, 99, 100, 102]⟩)).1 = ⟨#[]⟩ := by kernel_rfl
theorem live_n2e : (normal (sN ⟨#[98, 122, 45, 98, 122, 32, 99, 100, 102]⟩)).2 = 91 := by kernel_rfl
set_option maxRecDepth 100000 in
set_option maxHeartbeats 2000000 in
theorem live_any (w : World) : Calls Try.prog 12 #[] w fun e w' => e = .returned (.bool true) ∧ Below w.heap.size w w' := by
  have h1 : Calls Try.prog 18 #[.slice (some ⟨w.heap.size, 0, none⟩) 9 9] (w.alloc (.cells (c8 L0) 5)) fun e w' => ∃ g f, e = .returned (.pointer (some ⟨g, 0, none⟩)) ∧ w.heap.size < g ∧ Src w' f 1 g L0 ∧ Below w.heap.size w w' := by
    have h := newSource_any (fun _ => 0) 1 L0 (some ⟨w.heap.size, 0, none⟩) 9 9 (w.alloc (.cells (c8 L0) 5)) rfl (by decide) L0_all (C8.lit w L0 _ _ _ rfl rfl (by decide))
    rw [L0_fed] at h
    exact h.mono fun e w' ⟨g, he, hg, hS, hb⟩ => ⟨g, _, he, by simp at hg; omega, hS, ((Below.refl _ _).alloc (Nat.le_refl _) _).trans (hb.mono (by simp))⟩
  have h2 : ∀ (W : World) (f : Nat → Nat) (g : Nat), Src W f 1 g L0 → Calls Try.prog 17 #[.pointer (some ⟨g, 0, none⟩)] W fun e w' => e = .returned (.tuple #[.string ⟨#[66, 90, 66, 90, 67, 68, 70, 71]⟩, .int .i64 0]) ∧ Src w' (col f W.heap.size (1 + 1)) 1 g [] ∧ Far (fun k => k = g) W w' := fun W f g h => by
    have := user_any f 1 g L0 W h
    rw [L0_code, L0_user] at this
    exact this
  have h3 : ∀ W : World, Calls Try.prog 13 #[.string ⟨#[98, 122, 45, 98, 122, 32, 99, 100, 102, 103]⟩] W fun e w' => e = .returned (.tuple #[.string ⟨#[66, 90, 66, 90, 67, 68, 70, 71]⟩, .int .i64 0]) ∧ Below W.heap.size W w' := fun W => by
    have := normal_any ⟨#[98, 122, 45, 98, 122, 32, 99, 100, 102, 103]⟩ W
    rw [live_n1, live_n1e] at this
    exact this
  have h4 : ∀ W : World, Calls Try.prog 13 #[.string ⟨#[98, 122, 45, 98, 122, 32, 99, 100, 102]⟩] W fun e w' => e = .returned (.tuple #[.string ⟨#[]⟩, .int .i64 91]) ∧ Below W.heap.size W w' := fun W => by
    have := normal_any ⟨#[98, 122, 45, 98, 122, 32, 99, 100, 102]⟩ W
    rw [live_n2, live_n2e] at this
    exact this
  have h5 : ∀ W : World, Calls Try.prog 15 #[.string ⟨#[66, 90, 66, 90, 67, 68, 70, 71]⟩] W fun e w' => e = .returned (.string ⟨#[66, 90, 66, 90, 45, 67, 68, 70, 71]⟩) ∧ Below W.heap.size W w' := fun W => by
    have := show_any CD W
    rw [CD_show] at this
    exact this
  have h6 : ∀ (W : World) (f : Nat → Nat) (g : Nat), Src W f 1 g [] → Calls Try.prog 22 #[.pointer (some ⟨g, 0, none⟩)] W fun e w' => e = .returned (.int .i64 0) ∧ W = w' := fun W f g h => left_any f 1 g [] W h
  have H1 := Lib.hid h1; have H2 := Lib.hid h2; have H3 := Lib.hid h3; have H4 := Lib.hid h4; have H5 := Lib.hid h5; have H6 := Lib.hid h6
  clear h1 h2 h3 h4 h5 h6
  go_enter Try.func12, Try.ntmps12
  go_wp2_with (first
    | (go_at_call 18; (refine H1.out.mono ?_); rintro e w1 ⟨g, f1, rfl, hg, S1, hb1⟩)
    | (go_at_call 17; (with_reducible refine (H2.out _ f1 g S1).mono ?_); rintro e w2 ⟨rfl, S2, F2⟩
       have hb2 : Below w.heap.size w w2 := hb1.trans (F2.below (fun n hn e => by omega) hb1.size)
       clear S1)
    | (go_at_call 13; (with_reducible refine (H3.out _).mono ?_); rintro e w3 ⟨rfl, hb3⟩
       have S3 := S2.below hb3
       have hb3' := hb2.trans (hb3.mono hb2.size)
       clear S2 hb3)
    | (go_at_call 13; (with_reducible refine (H4.out _).mono ?_); rintro e w4 ⟨rfl, hb4⟩
       have S4 := S3.below hb4
       have hb4' := hb3'.trans (hb4.mono hb3'.size)
       clear S3 hb4)
    | (go_at_call 11; (with_reducible refine (num_q _ _).mono ?_); rintro e w5 ⟨rfl, rfl⟩)
    | (go_at_call 22; (with_reducible refine (H6.out _ _ g S4).mono ?_); rintro e w6 ⟨rfl, rfl⟩)
    | (go_at_call 15; (with_reducible refine (H5.out _).mono ?_); rintro e w7 ⟨rfl, hb7⟩
       have hb7' := hb4'.trans (hb7.mono hb4'.size)))
  go_ret
  exact ⟨rfl, hb7'⟩
end Go.Proofs.Ytaeipffenlkjpaa.Sha
