/-
  CodesApart: other bytes make other codes: what the call does, walked; as the row hands it on.
-/
import Derived.Test.YtaeipffenlkjpaaCLive
namespace Go.Proofs.Ytaeipffenlkjpaa.Sha
open Go.RowKit Go.Proofs.YtaeipffenlkjpaaW.PrintWords Go.Proofs.Ytaeipffenlkjpaa.PAll Go.Proofs.Ytaeipffenlkjpaa.Plain Go.Proofs.Ytaeipffenlkjpaa.Cod
set_option linter.unusedVariables false
set_option linter.unusedSimpArgs false
theorem six_size : ∀ p : List Nat, (six p).length = (8 * p.length + 5) / 6
  | [] => rfl
  | [a] => by simp [six]
  | [a, b] => by simp [six]
  | a :: b :: c :: p => by
    have h := six_size p
    unfold six
    simp only [List.length_cons] at h ⊢
    omega
theorem b64_size (p : List Nat) : (b64 p).size = (8 * p.length + 5) / 6 := by
  unfold b64
  rw [txt_size, spell_len, six_size]
theorem b64_inj {p q : List Nat} (hp : All 256 p) (hq : All 256 q) (h : b64 p = b64 q) : p = q := by
  have h1 := congrArg sN h
  unfold b64 at h1
  rw [sN_txt _ (spell64_lt _), sN_txt _ (spell64_lt _)] at h1
  have h2 := congrArg (List.map (value al64)) h1
  rw [value_spell al64_back _ (six_lt p hp), value_spell al64_back _ (six_lt q hq)] at h2
  have h3 := congrArg (fun v => (une v).1) h2
  simp only [une_six p hp, une_six q hq] at h3
  exact h3
theorem took_fed (n : Nat) (hn : n ≤ 4096) (p : List Nat) : (took n (fed [] p)).1 = (if n ≤ p.length then b64 (p.take n) else ⟨#[]⟩) ∧ (took n (fed [] p)).2.1 = (if n ≤ p.length then 0 else 90) := by
  have hl : (fed [] p).length = min 4096 p.length := by rw [fed_take, List.length_take]
  unfold took
  by_cases h : n ≤ p.length
  · rw [if_pos (by omega), if_pos h, if_pos h, fed_take, List.take_take, Nat.min_eq_left hn]
    exact ⟨rfl, rfl⟩
  · rw [if_neg (by omega), if_neg h, if_neg h]
    exact ⟨rfl, rfl⟩
theorem txt_eq {a b : List Nat} (ha : All 256 a) (hb : All 256 b) : txt a = txt b ↔ a = b := by
  constructor
  · intro h
    rw [← sN_txt a ha, ← sN_txt b hb, h]
  · intro h
    rw [h]
/-- The two comparisons that CodesApart makes tell the same. -/
theorem same_two (p q : List Nat) (n : Nat) (hp : All 256 p) (hq : All 256 q) : ((b64 (p.take n)).toList == (b64 (q.take n)).toList) = ((txt (p.take n)).toList == (txt (q.take n)).toList) := by
  rw [toList_beq, toList_beq, decide_eq_decide, txt_eq (All.take hp n) (All.take hq n)]
  constructor
  · exact b64_inj (All.take hp n) (All.take hq n)
  · intro h
    rw [h]
-- the walk, by mkapart.py
set_option maxRecDepth 100000 in
set_option maxHeartbeats 4000000 in
theorem apart_00 (p q : List Nat) (A0 : Option Addr) (n0 c0 : Nat) (A1 : Option Addr) (n1 c1 : Nat) (W : World) (hn0 : n0 = p.length) (hn1 : n1 = q.length) (hp : All 256 p) (hq : All 256 q) (hc0 : n0 ≤ c0) (hc1 : n1 ≤ c1) (hC0 : C8 W A0 p.length p) (hC1 : C8 W A1 q.length q) (hka : n0 < 24) (hkb : n1 < 24) :
    Calls Try.prog 7 #[.slice A0 n0 c0, .slice A1 n1 c1] W fun e w' => e = .returned (.bool true) ∧ Below W.heap.size W w' := by
  obtain ⟨xa1, xa2⟩ := took_fed 32 (by decide) p
  rw [if_neg (by omega)] at xa1 xa2
  have Hxa : Hid (∀ (V : World) (f : Nat → Nat) (g : Nat), Src V f 1 g (fed [] p) → Calls Try.prog 23 #[.pointer (some ⟨g, 0, none⟩)] V fun e w' => e = .returned (.tuple #[.string ⟨#[]⟩, .int .i64 90]) ∧ Far (fun k => k = g) V w') := fun V f g h => by
    have h9 := device_any f 1 g _ V h
    rw [xa1, xa2] at h9
    exact h9.mono fun e w' ⟨he, _, hf⟩ => ⟨he, hf⟩
  obtain ⟨xb1, xb2⟩ := took_fed 32 (by decide) q
  rw [if_neg (by omega)] at xb1 xb2
  have Hxb : Hid (∀ (V : World) (f : Nat → Nat) (g : Nat), Src V f 1 g (fed [] q) → Calls Try.prog 23 #[.pointer (some ⟨g, 0, none⟩)] V fun e w' => e = .returned (.tuple #[.string ⟨#[]⟩, .int .i64 90]) ∧ Far (fun k => k = g) V w') := fun V f g h => by
    have h9 := device_any f 1 g _ V h
    rw [xb1, xb2] at h9
    exact h9.mono fun e w' ⟨he, _, hf⟩ => ⟨he, hf⟩
  obtain ⟨va1, va2⟩ := took_fed 24 (by decide) p
  rw [if_neg (by omega)] at va1 va2
  have Hva : Hid (∀ (V : World) (f : Nat → Nat) (g : Nat), Src V f 1 g (fed [] p) → Calls Try.prog 24 #[.pointer (some ⟨g, 0, none⟩)] V fun e w' => e = .returned (.tuple #[.string ⟨#[]⟩, .int .i64 90]) ∧ Far (fun k => k = g) V w') := fun V f g h => by
    have h9 := auth_any f 1 g _ V h
    rw [va1, va2] at h9
    exact h9.mono fun e w' ⟨he, _, hf⟩ => ⟨he, hf⟩
  obtain ⟨vb1, vb2⟩ := took_fed 24 (by decide) q
  rw [if_neg (by omega)] at vb1 vb2
  have Hvb : Hid (∀ (V : World) (f : Nat → Nat) (g : Nat), Src V f 1 g (fed [] q) → Calls Try.prog 24 #[.pointer (some ⟨g, 0, none⟩)] V fun e w' => e = .returned (.tuple #[.string ⟨#[]⟩, .int .i64 90]) ∧ Far (fun k => k = g) V w') := fun V f g h => by
    have h9 := auth_any f 1 g _ V h
    rw [vb1, vb2] at h9
    exact h9.mono fun e w' ⟨he, _, hf⟩ => ⟨he, hf⟩
  have Hna : Hid (∀ V : World, Below W.heap.size W V → Calls Try.prog 18 #[.slice A0 n0 c0] V fun e w' => ∃ g f, e = .returned (.pointer (some ⟨g, 0, none⟩)) ∧ V.heap.size ≤ g ∧ Src w' f 1 g (fed [] p) ∧ Below V.heap.size V w') := fun V hb =>
    (newSource_any (fun _ => 0) 1 p A0 n0 c0 V hn0 hc0 hp (hC0.below hb)).mono fun e w' ⟨g, he, hg, hS, hbl⟩ => ⟨g, _, he, hg, hS, hbl⟩
  have Hnb : Hid (∀ V : World, Below W.heap.size W V → Calls Try.prog 18 #[.slice A1 n1 c1] V fun e w' => ∃ g f, e = .returned (.pointer (some ⟨g, 0, none⟩)) ∧ V.heap.size ≤ g ∧ Src w' f 1 g (fed [] q) ∧ Below V.heap.size V w') := fun V hb =>
    (newSource_any (fun _ => 0) 1 q A1 n1 c1 V hn1 hc1 hq (hC1.below hb)).mono fun e w' ⟨g, he, hg, hS, hbl⟩ => ⟨g, _, he, hg, hS, hbl⟩
  have i0 : (0 : Int) ≤ (n0 : Int) := by omega
  have n032 : decide ((32 : Int) ≤ (n0 : Int)) = false := decide_eq_false (by omega)
  have n024 : decide ((24 : Int) ≤ (n0 : Int)) = false := decide_eq_false (by omega)
  have n132 : decide ((32 : Int) ≤ (n1 : Int)) = false := decide_eq_false (by omega)
  have n124 : decide ((24 : Int) ≤ (n1 : Int)) = false := decide_eq_false (by omega)
  clear xa1 xa2 xb1 xb2 va1 va2 vb1 vb2 hn0 hn1 hp hq hC0 hC1 hka hkb
  go_enter Try.func7, Try.ntmps7
  go_wp2_with (first
    | (go_at_call 18; (with_reducible refine (Hna.out _ (Below.refl _ _)).mono ?_); rintro e w1 ⟨g1, f1, rfl, hg1, S1, hb1⟩
       have hb1' : Below W.heap.size W w1 := hb1)
    | (go_at_call 23; (with_reducible refine (Hxa.out _ _ g1 S1).mono ?_); rintro e w2 ⟨rfl, F2⟩
       have hb2' : Below W.heap.size W w2 := hb1'.trans (F2.below (fun n hn e => by omega) hb1'.size)
       clear S1)
    | (go_at_call 18; (with_reducible refine (Hnb.out _ hb2').mono ?_); rintro e w3 ⟨g3, f3, rfl, hg3, S3, hb3⟩
       have hb3' : Below W.heap.size W w3 := hb2'.trans (hb3.mono hb2'.size))
    | (go_at_call 23; (with_reducible refine (Hxb.out _ _ g3 S3).mono ?_); rintro e w4 ⟨rfl, F4⟩
       have hb4' : Below W.heap.size W w4 := hb3'.trans (F4.below (fun n hn e => by have := hb2'.size; omega) hb3'.size)
       clear S3)
    | (go_at_call 18; (with_reducible refine (Hna.out _ hb4').mono ?_); rintro e w5 ⟨g5, f5, rfl, hg5, S5, hb5⟩
       have hb5' : Below W.heap.size W w5 := hb4'.trans (hb5.mono hb4'.size))
    | (go_at_call 24; (with_reducible refine (Hva.out _ _ g5 S5).mono ?_); rintro e w6 ⟨rfl, F6⟩
       have hb6' : Below W.heap.size W w6 := hb5'.trans (F6.below (fun n hn e => by have := hb4'.size; omega) hb5'.size)
       clear S5)
    | (go_at_call 18; (with_reducible refine (Hnb.out _ hb6').mono ?_); rintro e w7 ⟨g7, f7, rfl, hg7, S7, hb7⟩
       have hb7' : Below W.heap.size W w7 := hb6'.trans (hb7.mono hb6'.size))
    | (go_at_call 24; (with_reducible refine (Hvb.out _ _ g7 S7).mono ?_); rintro e w8 ⟨rfl, F8⟩
       have hb8' : Below W.heap.size W w8 := hb7'.trans (F8.below (fun n hn e => by have := hb6'.size; omega) hb7'.size)
       clear S7)
    | (go_at_call 11; (with_reducible refine (num_q _ _).mono ?_); rintro e w5 ⟨rfl, rfl⟩)
    | (go_at_call 12; (with_reducible refine (live_any _).mono ?_); rintro e w9 ⟨rfl, hb9⟩
       have hb9' := hb8'.trans (hb9.mono hb8'.size)))
  go_quiet ((go_at_call 11; first | exact quiet_left (num_q _ _) | exact quiet_add_left (num_q _ _)))
  go_wp2
  go_quiet ((go_at_call 11; first | exact quiet_left (num_q _ _) | exact quiet_add_left (num_q _ _)))
  go_wp2
  go_ret
  exact ⟨rfl, below_drewN hb9' _⟩
set_option maxRecDepth 100000 in
set_option maxHeartbeats 4000000 in
theorem apart_01 (p q : List Nat) (A0 : Option Addr) (n0 c0 : Nat) (A1 : Option Addr) (n1 c1 : Nat) (W : World) (hn0 : n0 = p.length) (hn1 : n1 = q.length) (hp : All 256 p) (hq : All 256 q) (hc0 : n0 ≤ c0) (hc1 : n1 ≤ c1) (hC0 : C8 W A0 p.length p) (hC1 : C8 W A1 q.length q) (hka : n0 < 24) (hkb : 24 ≤ n1 ∧ n1 < 32) :
    Calls Try.prog 7 #[.slice A0 n0 c0, .slice A1 n1 c1] W fun e w' => e = .returned (.bool true) ∧ Below W.heap.size W w' := by
  obtain ⟨xa1, xa2⟩ := took_fed 32 (by decide) p
  rw [if_neg (by omega)] at xa1 xa2
  have Hxa : Hid (∀ (V : World) (f : Nat → Nat) (g : Nat), Src V f 1 g (fed [] p) → Calls Try.prog 23 #[.pointer (some ⟨g, 0, none⟩)] V fun e w' => e = .returned (.tuple #[.string ⟨#[]⟩, .int .i64 90]) ∧ Far (fun k => k = g) V w') := fun V f g h => by
    have h9 := device_any f 1 g _ V h
    rw [xa1, xa2] at h9
    exact h9.mono fun e w' ⟨he, _, hf⟩ => ⟨he, hf⟩
  obtain ⟨xb1, xb2⟩ := took_fed 32 (by decide) q
  rw [if_neg (by omega)] at xb1 xb2
  have Hxb : Hid (∀ (V : World) (f : Nat → Nat) (g : Nat), Src V f 1 g (fed [] q) → Calls Try.prog 23 #[.pointer (some ⟨g, 0, none⟩)] V fun e w' => e = .returned (.tuple #[.string ⟨#[]⟩, .int .i64 90]) ∧ Far (fun k => k = g) V w') := fun V f g h => by
    have h9 := device_any f 1 g _ V h
    rw [xb1, xb2] at h9
    exact h9.mono fun e w' ⟨he, _, hf⟩ => ⟨he, hf⟩
  obtain ⟨va1, va2⟩ := took_fed 24 (by decide) p
  rw [if_neg (by omega)] at va1 va2
  have Hva : Hid (∀ (V : World) (f : Nat → Nat) (g : Nat), Src V f 1 g (fed [] p) → Calls Try.prog 24 #[.pointer (some ⟨g, 0, none⟩)] V fun e w' => e = .returned (.tuple #[.string ⟨#[]⟩, .int .i64 90]) ∧ Far (fun k => k = g) V w') := fun V f g h => by
    have h9 := auth_any f 1 g _ V h
    rw [va1, va2] at h9
    exact h9.mono fun e w' ⟨he, _, hf⟩ => ⟨he, hf⟩
  obtain ⟨vb1, vb2⟩ := took_fed 24 (by decide) q
  rw [if_pos (by omega)] at vb1 vb2
  obtain ⟨Xvb, hXvb⟩ : ∃ X, X = b64 (q.take 24) := ⟨_, rfl⟩
  rw [← hXvb] at vb1
  have Hvb : Hid (∀ (V : World) (f : Nat → Nat) (g : Nat), Src V f 1 g (fed [] q) → Calls Try.prog 24 #[.pointer (some ⟨g, 0, none⟩)] V fun e w' => e = .returned (.tuple #[.string Xvb, .int .i64 0]) ∧ Far (fun k => k = g) V w') := fun V f g h => by
    have h9 := auth_any f 1 g _ V h
    rw [vb1, vb2] at h9
    exact h9.mono fun e w' ⟨he, _, hf⟩ => ⟨he, hf⟩
  have Hna : Hid (∀ V : World, Below W.heap.size W V → Calls Try.prog 18 #[.slice A0 n0 c0] V fun e w' => ∃ g f, e = .returned (.pointer (some ⟨g, 0, none⟩)) ∧ V.heap.size ≤ g ∧ Src w' f 1 g (fed [] p) ∧ Below V.heap.size V w') := fun V hb =>
    (newSource_any (fun _ => 0) 1 p A0 n0 c0 V hn0 hc0 hp (hC0.below hb)).mono fun e w' ⟨g, he, hg, hS, hbl⟩ => ⟨g, _, he, hg, hS, hbl⟩
  have Hnb : Hid (∀ V : World, Below W.heap.size W V → Calls Try.prog 18 #[.slice A1 n1 c1] V fun e w' => ∃ g f, e = .returned (.pointer (some ⟨g, 0, none⟩)) ∧ V.heap.size ≤ g ∧ Src w' f 1 g (fed [] q) ∧ Below V.heap.size V w') := fun V hb =>
    (newSource_any (fun _ => 0) 1 q A1 n1 c1 V hn1 hc1 hq (hC1.below hb)).mono fun e w' ⟨g, he, hg, hS, hbl⟩ => ⟨g, _, he, hg, hS, hbl⟩
  have i0 : (0 : Int) ≤ (n0 : Int) := by omega
  have n032 : decide ((32 : Int) ≤ (n0 : Int)) = false := decide_eq_false (by omega)
  have n024 : decide ((24 : Int) ≤ (n0 : Int)) = false := decide_eq_false (by omega)
  have n132 : decide ((32 : Int) ≤ (n1 : Int)) = false := decide_eq_false (by omega)
  have n124 : decide ((24 : Int) ≤ (n1 : Int)) = true := decide_eq_true (by omega)
  have n1d : (24 : Int) ≤ (c1 : Int) := by omega
  clear xa1 xa2 xb1 xb2 va1 va2 vb1 vb2 hn0 hn1 hp hq hC0 hC1 hka hkb hXvb
  go_enter Try.func7, Try.ntmps7
  go_wp2_with (first
    | (go_at_call 18; (with_reducible refine (Hna.out _ (Below.refl _ _)).mono ?_); rintro e w1 ⟨g1, f1, rfl, hg1, S1, hb1⟩
       have hb1' : Below W.heap.size W w1 := hb1)
    | (go_at_call 23; (with_reducible refine (Hxa.out _ _ g1 S1).mono ?_); rintro e w2 ⟨rfl, F2⟩
       have hb2' : Below W.heap.size W w2 := hb1'.trans (F2.below (fun n hn e => by omega) hb1'.size)
       clear S1)
    | (go_at_call 18; (with_reducible refine (Hnb.out _ hb2').mono ?_); rintro e w3 ⟨g3, f3, rfl, hg3, S3, hb3⟩
       have hb3' : Below W.heap.size W w3 := hb2'.trans (hb3.mono hb2'.size))
    | (go_at_call 23; (with_reducible refine (Hxb.out _ _ g3 S3).mono ?_); rintro e w4 ⟨rfl, F4⟩
       have hb4' : Below W.heap.size W w4 := hb3'.trans (F4.below (fun n hn e => by have := hb2'.size; omega) hb3'.size)
       clear S3)
    | (go_at_call 18; (with_reducible refine (Hna.out _ hb4').mono ?_); rintro e w5 ⟨g5, f5, rfl, hg5, S5, hb5⟩
       have hb5' : Below W.heap.size W w5 := hb4'.trans (hb5.mono hb4'.size))
    | (go_at_call 24; (with_reducible refine (Hva.out _ _ g5 S5).mono ?_); rintro e w6 ⟨rfl, F6⟩
       have hb6' : Below W.heap.size W w6 := hb5'.trans (F6.below (fun n hn e => by have := hb4'.size; omega) hb5'.size)
       clear S5)
    | (go_at_call 18; (with_reducible refine (Hnb.out _ hb6').mono ?_); rintro e w7 ⟨g7, f7, rfl, hg7, S7, hb7⟩
       have hb7' : Below W.heap.size W w7 := hb6'.trans (hb7.mono hb6'.size))
    | (go_at_call 24; (with_reducible refine (Hvb.out _ _ g7 S7).mono ?_); rintro e w8 ⟨rfl, F8⟩
       have hb8' : Below W.heap.size W w8 := hb7'.trans (F8.below (fun n hn e => by have := hb6'.size; omega) hb7'.size)
       clear S7)
    | (go_at_call 11; (with_reducible refine (num_q _ _).mono ?_); rintro e w5 ⟨rfl, rfl⟩)
    | (go_at_call 12; (with_reducible refine (live_any _).mono ?_); rintro e w9 ⟨rfl, hb9⟩
       have hb9' := hb8'.trans (hb9.mono hb8'.size)))
  go_quiet ((go_at_call 11; first | exact quiet_left (num_q _ _) | exact quiet_add_left (num_q _ _)))
  go_wp2
  go_quiet ((go_at_call 11; first | exact quiet_left (num_q _ _) | exact quiet_add_left (num_q _ _)))
  go_wp2
  go_ret
  exact ⟨rfl, below_drewN hb9' _⟩
set_option maxRecDepth 100000 in
set_option maxHeartbeats 4000000 in
theorem apart_02 (p q : List Nat) (A0 : Option Addr) (n0 c0 : Nat) (A1 : Option Addr) (n1 c1 : Nat) (W : World) (hn0 : n0 = p.length) (hn1 : n1 = q.length) (hp : All 256 p) (hq : All 256 q) (hc0 : n0 ≤ c0) (hc1 : n1 ≤ c1) (hC0 : C8 W A0 p.length p) (hC1 : C8 W A1 q.length q) (hka : n0 < 24) (hkb : 32 ≤ n1) :
    Calls Try.prog 7 #[.slice A0 n0 c0, .slice A1 n1 c1] W fun e w' => e = .returned (.bool true) ∧ Below W.heap.size W w' := by
  obtain ⟨xa1, xa2⟩ := took_fed 32 (by decide) p
  rw [if_neg (by omega)] at xa1 xa2
  have Hxa : Hid (∀ (V : World) (f : Nat → Nat) (g : Nat), Src V f 1 g (fed [] p) → Calls Try.prog 23 #[.pointer (some ⟨g, 0, none⟩)] V fun e w' => e = .returned (.tuple #[.string ⟨#[]⟩, .int .i64 90]) ∧ Far (fun k => k = g) V w') := fun V f g h => by
    have h9 := device_any f 1 g _ V h
    rw [xa1, xa2] at h9
    exact h9.mono fun e w' ⟨he, _, hf⟩ => ⟨he, hf⟩
  obtain ⟨xb1, xb2⟩ := took_fed 32 (by decide) q
  rw [if_pos (by omega)] at xb1 xb2
  obtain ⟨Xxb, hXxb⟩ : ∃ X, X = b64 (q.take 32) := ⟨_, rfl⟩
  rw [← hXxb] at xb1
  have Hxb : Hid (∀ (V : World) (f : Nat → Nat) (g : Nat), Src V f 1 g (fed [] q) → Calls Try.prog 23 #[.pointer (some ⟨g, 0, none⟩)] V fun e w' => e = .returned (.tuple #[.string Xxb, .int .i64 0]) ∧ Far (fun k => k = g) V w') := fun V f g h => by
    have h9 := device_any f 1 g _ V h
    rw [xb1, xb2] at h9
    exact h9.mono fun e w' ⟨he, _, hf⟩ => ⟨he, hf⟩
  obtain ⟨va1, va2⟩ := took_fed 24 (by decide) p
  rw [if_neg (by omega)] at va1 va2
  have Hva : Hid (∀ (V : World) (f : Nat → Nat) (g : Nat), Src V f 1 g (fed [] p) → Calls Try.prog 24 #[.pointer (some ⟨g, 0, none⟩)] V fun e w' => e = .returned (.tuple #[.string ⟨#[]⟩, .int .i64 90]) ∧ Far (fun k => k = g) V w') := fun V f g h => by
    have h9 := auth_any f 1 g _ V h
    rw [va1, va2] at h9
    exact h9.mono fun e w' ⟨he, _, hf⟩ => ⟨he, hf⟩
  obtain ⟨vb1, vb2⟩ := took_fed 24 (by decide) q
  rw [if_pos (by omega)] at vb1 vb2
  obtain ⟨Xvb, hXvb⟩ : ∃ X, X = b64 (q.take 24) := ⟨_, rfl⟩
  rw [← hXvb] at vb1
  have Hvb : Hid (∀ (V : World) (f : Nat → Nat) (g : Nat), Src V f 1 g (fed [] q) → Calls Try.prog 24 #[.pointer (some ⟨g, 0, none⟩)] V fun e w' => e = .returned (.tuple #[.string Xvb, .int .i64 0]) ∧ Far (fun k => k = g) V w') := fun V f g h => by
    have h9 := auth_any f 1 g _ V h
    rw [vb1, vb2] at h9
    exact h9.mono fun e w' ⟨he, _, hf⟩ => ⟨he, hf⟩
  have Hna : Hid (∀ V : World, Below W.heap.size W V → Calls Try.prog 18 #[.slice A0 n0 c0] V fun e w' => ∃ g f, e = .returned (.pointer (some ⟨g, 0, none⟩)) ∧ V.heap.size ≤ g ∧ Src w' f 1 g (fed [] p) ∧ Below V.heap.size V w') := fun V hb =>
    (newSource_any (fun _ => 0) 1 p A0 n0 c0 V hn0 hc0 hp (hC0.below hb)).mono fun e w' ⟨g, he, hg, hS, hbl⟩ => ⟨g, _, he, hg, hS, hbl⟩
  have Hnb : Hid (∀ V : World, Below W.heap.size W V → Calls Try.prog 18 #[.slice A1 n1 c1] V fun e w' => ∃ g f, e = .returned (.pointer (some ⟨g, 0, none⟩)) ∧ V.heap.size ≤ g ∧ Src w' f 1 g (fed [] q) ∧ Below V.heap.size V w') := fun V hb =>
    (newSource_any (fun _ => 0) 1 q A1 n1 c1 V hn1 hc1 hq (hC1.below hb)).mono fun e w' ⟨g, he, hg, hS, hbl⟩ => ⟨g, _, he, hg, hS, hbl⟩
  have i0 : (0 : Int) ≤ (n0 : Int) := by omega
  have n032 : decide ((32 : Int) ≤ (n0 : Int)) = false := decide_eq_false (by omega)
  have n024 : decide ((24 : Int) ≤ (n0 : Int)) = false := decide_eq_false (by omega)
  have n132 : decide ((32 : Int) ≤ (n1 : Int)) = true := decide_eq_true (by omega)
  have n124 : decide ((24 : Int) ≤ (n1 : Int)) = true := decide_eq_true (by omega)
  have n1c : (32 : Int) ≤ (c1 : Int) := by omega
  have n1d : (24 : Int) ≤ (c1 : Int) := by omega
  clear xa1 xa2 xb1 xb2 va1 va2 vb1 vb2 hn0 hn1 hp hq hC0 hC1 hka hkb hXxb hXvb
  go_enter Try.func7, Try.ntmps7
  go_wp2_with (first
    | (go_at_call 18; (with_reducible refine (Hna.out _ (Below.refl _ _)).mono ?_); rintro e w1 ⟨g1, f1, rfl, hg1, S1, hb1⟩
       have hb1' : Below W.heap.size W w1 := hb1)
    | (go_at_call 23; (with_reducible refine (Hxa.out _ _ g1 S1).mono ?_); rintro e w2 ⟨rfl, F2⟩
       have hb2' : Below W.heap.size W w2 := hb1'.trans (F2.below (fun n hn e => by omega) hb1'.size)
       clear S1)
    | (go_at_call 18; (with_reducible refine (Hnb.out _ hb2').mono ?_); rintro e w3 ⟨g3, f3, rfl, hg3, S3, hb3⟩
       have hb3' : Below W.heap.size W w3 := hb2'.trans (hb3.mono hb2'.size))
    | (go_at_call 23; (with_reducible refine (Hxb.out _ _ g3 S3).mono ?_); rintro e w4 ⟨rfl, F4⟩
       have hb4' : Below W.heap.size W w4 := hb3'.trans (F4.below (fun n hn e => by have := hb2'.size; omega) hb3'.size)
       clear S3)
    | (go_at_call 18; (with_reducible refine (Hna.out _ hb4').mono ?_); rintro e w5 ⟨g5, f5, rfl, hg5, S5, hb5⟩
       have hb5' : Below W.heap.size W w5 := hb4'.trans (hb5.mono hb4'.size))
    | (go_at_call 24; (with_reducible refine (Hva.out _ _ g5 S5).mono ?_); rintro e w6 ⟨rfl, F6⟩
       have hb6' : Below W.heap.size W w6 := hb5'.trans (F6.below (fun n hn e => by have := hb4'.size; omega) hb5'.size)
       clear S5)
    | (go_at_call 18; (with_reducible refine (Hnb.out _ hb6').mono ?_); rintro e w7 ⟨g7, f7, rfl, hg7, S7, hb7⟩
       have hb7' : Below W.heap.size W w7 := hb6'.trans (hb7.mono hb6'.size))
    | (go_at_call 24; (with_reducible refine (Hvb.out _ _ g7 S7).mono ?_); rintro e w8 ⟨rfl, F8⟩
       have hb8' : Below W.heap.size W w8 := hb7'.trans (F8.below (fun n hn e => by have := hb6'.size; omega) hb7'.size)
       clear S7)
    | (go_at_call 11; (with_reducible refine (num_q _ _).mono ?_); rintro e w5 ⟨rfl, rfl⟩)
    | (go_at_call 12; (with_reducible refine (live_any _).mono ?_); rintro e w9 ⟨rfl, hb9⟩
       have hb9' := hb8'.trans (hb9.mono hb8'.size)))
  go_quiet ((go_at_call 11; first | exact quiet_left (num_q _ _) | exact quiet_add_left (num_q _ _)))
  go_wp2
  go_quiet ((go_at_call 11; first | exact quiet_left (num_q _ _) | exact quiet_add_left (num_q _ _)))
  go_wp2
  go_ret
  exact ⟨rfl, below_drewN hb9' _⟩
set_option maxRecDepth 100000 in
set_option maxHeartbeats 4000000 in
theorem apart_10 (p q : List Nat) (A0 : Option Addr) (n0 c0 : Nat) (A1 : Option Addr) (n1 c1 : Nat) (W : World) (hn0 : n0 = p.length) (hn1 : n1 = q.length) (hp : All 256 p) (hq : All 256 q) (hc0 : n0 ≤ c0) (hc1 : n1 ≤ c1) (hC0 : C8 W A0 p.length p) (hC1 : C8 W A1 q.length q) (hka : 24 ≤ n0 ∧ n0 < 32) (hkb : n1 < 24) :
    Calls Try.prog 7 #[.slice A0 n0 c0, .slice A1 n1 c1] W fun e w' => e = .returned (.bool true) ∧ Below W.heap.size W w' := by
  obtain ⟨xa1, xa2⟩ := took_fed 32 (by decide) p
  rw [if_neg (by omega)] at xa1 xa2
  have Hxa : Hid (∀ (V : World) (f : Nat → Nat) (g : Nat), Src V f 1 g (fed [] p) → Calls Try.prog 23 #[.pointer (some ⟨g, 0, none⟩)] V fun e w' => e = .returned (.tuple #[.string ⟨#[]⟩, .int .i64 90]) ∧ Far (fun k => k = g) V w') := fun V f g h => by
    have h9 := device_any f 1 g _ V h
    rw [xa1, xa2] at h9
    exact h9.mono fun e w' ⟨he, _, hf⟩ => ⟨he, hf⟩
  obtain ⟨xb1, xb2⟩ := took_fed 32 (by decide) q
  rw [if_neg (by omega)] at xb1 xb2
  have Hxb : Hid (∀ (V : World) (f : Nat → Nat) (g : Nat), Src V f 1 g (fed [] q) → Calls Try.prog 23 #[.pointer (some ⟨g, 0, none⟩)] V fun e w' => e = .returned (.tuple #[.string ⟨#[]⟩, .int .i64 90]) ∧ Far (fun k => k = g) V w') := fun V f g h => by
    have h9 := device_any f 1 g _ V h
    rw [xb1, xb2] at h9
    exact h9.mono fun e w' ⟨he, _, hf⟩ => ⟨he, hf⟩
  obtain ⟨va1, va2⟩ := took_fed 24 (by decide) p
  rw [if_pos (by omega)] at va1 va2
  obtain ⟨Xva, hXva⟩ : ∃ X, X = b64 (p.take 24) := ⟨_, rfl⟩
  rw [← hXva] at va1
  have Hva : Hid (∀ (V : World) (f : Nat → Nat) (g : Nat), Src V f 1 g (fed [] p) → Calls Try.prog 24 #[.pointer (some ⟨g, 0, none⟩)] V fun e w' => e = .returned (.tuple #[.string Xva, .int .i64 0]) ∧ Far (fun k => k = g) V w') := fun V f g h => by
    have h9 := auth_any f 1 g _ V h
    rw [va1, va2] at h9
    exact h9.mono fun e w' ⟨he, _, hf⟩ => ⟨he, hf⟩
  obtain ⟨vb1, vb2⟩ := took_fed 24 (by decide) q
  rw [if_neg (by omega)] at vb1 vb2
  have Hvb : Hid (∀ (V : World) (f : Nat → Nat) (g : Nat), Src V f 1 g (fed [] q) → Calls Try.prog 24 #[.pointer (some ⟨g, 0, none⟩)] V fun e w' => e = .returned (.tuple #[.string ⟨#[]⟩, .int .i64 90]) ∧ Far (fun k => k = g) V w') := fun V f g h => by
    have h9 := auth_any f 1 g _ V h
    rw [vb1, vb2] at h9
    exact h9.mono fun e w' ⟨he, _, hf⟩ => ⟨he, hf⟩
  have Hna : Hid (∀ V : World, Below W.heap.size W V → Calls Try.prog 18 #[.slice A0 n0 c0] V fun e w' => ∃ g f, e = .returned (.pointer (some ⟨g, 0, none⟩)) ∧ V.heap.size ≤ g ∧ Src w' f 1 g (fed [] p) ∧ Below V.heap.size V w') := fun V hb =>
    (newSource_any (fun _ => 0) 1 p A0 n0 c0 V hn0 hc0 hp (hC0.below hb)).mono fun e w' ⟨g, he, hg, hS, hbl⟩ => ⟨g, _, he, hg, hS, hbl⟩
  have Hnb : Hid (∀ V : World, Below W.heap.size W V → Calls Try.prog 18 #[.slice A1 n1 c1] V fun e w' => ∃ g f, e = .returned (.pointer (some ⟨g, 0, none⟩)) ∧ V.heap.size ≤ g ∧ Src w' f 1 g (fed [] q) ∧ Below V.heap.size V w') := fun V hb =>
    (newSource_any (fun _ => 0) 1 q A1 n1 c1 V hn1 hc1 hq (hC1.below hb)).mono fun e w' ⟨g, he, hg, hS, hbl⟩ => ⟨g, _, he, hg, hS, hbl⟩
  have hzva : Xva.size = 32 := by rw [hXva, b64_size, List.length_take, show min 24 p.length = 24 by omega]
  have i0 : (0 : Int) ≤ (n0 : Int) := by omega
  have n032 : decide ((32 : Int) ≤ (n0 : Int)) = false := decide_eq_false (by omega)
  have n024 : decide ((24 : Int) ≤ (n0 : Int)) = true := decide_eq_true (by omega)
  have n0d : (24 : Int) ≤ (c0 : Int) := by omega
  have n132 : decide ((32 : Int) ≤ (n1 : Int)) = false := decide_eq_false (by omega)
  have n124 : decide ((24 : Int) ≤ (n1 : Int)) = false := decide_eq_false (by omega)
  clear xa1 xa2 xb1 xb2 va1 va2 vb1 vb2 hn0 hn1 hp hq hC0 hC1 hka hkb hXva
  have hzzva : ((Xva.size : Int) == 32) = true := by rw [hzva]; rfl
  clear hzva
  go_enter Try.func7, Try.ntmps7
  go_wp2_with (first
    | (go_at_call 18; (with_reducible refine (Hna.out _ (Below.refl _ _)).mono ?_); rintro e w1 ⟨g1, f1, rfl, hg1, S1, hb1⟩
       have hb1' : Below W.heap.size W w1 := hb1)
    | (go_at_call 23; (with_reducible refine (Hxa.out _ _ g1 S1).mono ?_); rintro e w2 ⟨rfl, F2⟩
       have hb2' : Below W.heap.size W w2 := hb1'.trans (F2.below (fun n hn e => by omega) hb1'.size)
       clear S1)
    | (go_at_call 18; (with_reducible refine (Hnb.out _ hb2').mono ?_); rintro e w3 ⟨g3, f3, rfl, hg3, S3, hb3⟩
       have hb3' : Below W.heap.size W w3 := hb2'.trans (hb3.mono hb2'.size))
    | (go_at_call 23; (with_reducible refine (Hxb.out _ _ g3 S3).mono ?_); rintro e w4 ⟨rfl, F4⟩
       have hb4' : Below W.heap.size W w4 := hb3'.trans (F4.below (fun n hn e => by have := hb2'.size; omega) hb3'.size)
       clear S3)
    | (go_at_call 18; (with_reducible refine (Hna.out _ hb4').mono ?_); rintro e w5 ⟨g5, f5, rfl, hg5, S5, hb5⟩
       have hb5' : Below W.heap.size W w5 := hb4'.trans (hb5.mono hb4'.size))
    | (go_at_call 24; (with_reducible refine (Hva.out _ _ g5 S5).mono ?_); rintro e w6 ⟨rfl, F6⟩
       have hb6' : Below W.heap.size W w6 := hb5'.trans (F6.below (fun n hn e => by have := hb4'.size; omega) hb5'.size)
       clear S5)
    | (go_at_call 18; (with_reducible refine (Hnb.out _ hb6').mono ?_); rintro e w7 ⟨g7, f7, rfl, hg7, S7, hb7⟩
       have hb7' : Below W.heap.size W w7 := hb6'.trans (hb7.mono hb6'.size))
    | (go_at_call 24; (with_reducible refine (Hvb.out _ _ g7 S7).mono ?_); rintro e w8 ⟨rfl, F8⟩
       have hb8' : Below W.heap.size W w8 := hb7'.trans (F8.below (fun n hn e => by have := hb6'.size; omega) hb7'.size)
       clear S7)
    | (go_at_call 11; (with_reducible refine (num_q _ _).mono ?_); rintro e w5 ⟨rfl, rfl⟩)
    | (go_at_call 12; (with_reducible refine (live_any _).mono ?_); rintro e w9 ⟨rfl, hb9⟩
       have hb9' := hb8'.trans (hb9.mono hb8'.size)))
  go_quiet ((go_at_call 11; first | exact quiet_left (num_q _ _) | exact quiet_add_left (num_q _ _)))
  go_wp2
  go_quiet ((go_at_call 11; first | exact quiet_left (num_q _ _) | exact quiet_add_left (num_q _ _)))
  go_wp2
  go_ret
  exact ⟨rfl, below_drewN hb9' _⟩
set_option maxRecDepth 100000 in
set_option maxHeartbeats 4000000 in
theorem apart_11 (p q : List Nat) (A0 : Option Addr) (n0 c0 : Nat) (A1 : Option Addr) (n1 c1 : Nat) (W : World) (hn0 : n0 = p.length) (hn1 : n1 = q.length) (hp : All 256 p) (hq : All 256 q) (hc0 : n0 ≤ c0) (hc1 : n1 ≤ c1) (hC0 : C8 W A0 p.length p) (hC1 : C8 W A1 q.length q) (hka : 24 ≤ n0 ∧ n0 < 32) (hkb : 24 ≤ n1 ∧ n1 < 32) :
    Calls Try.prog 7 #[.slice A0 n0 c0, .slice A1 n1 c1] W fun e w' => e = .returned (.bool true) ∧ Below W.heap.size W w' := by
  obtain ⟨xa1, xa2⟩ := took_fed 32 (by decide) p
  rw [if_neg (by omega)] at xa1 xa2
  have Hxa : Hid (∀ (V : World) (f : Nat → Nat) (g : Nat), Src V f 1 g (fed [] p) → Calls Try.prog 23 #[.pointer (some ⟨g, 0, none⟩)] V fun e w' => e = .returned (.tuple #[.string ⟨#[]⟩, .int .i64 90]) ∧ Far (fun k => k = g) V w') := fun V f g h => by
    have h9 := device_any f 1 g _ V h
    rw [xa1, xa2] at h9
    exact h9.mono fun e w' ⟨he, _, hf⟩ => ⟨he, hf⟩
  obtain ⟨xb1, xb2⟩ := took_fed 32 (by decide) q
  rw [if_neg (by omega)] at xb1 xb2
  have Hxb : Hid (∀ (V : World) (f : Nat → Nat) (g : Nat), Src V f 1 g (fed [] q) → Calls Try.prog 23 #[.pointer (some ⟨g, 0, none⟩)] V fun e w' => e = .returned (.tuple #[.string ⟨#[]⟩, .int .i64 90]) ∧ Far (fun k => k = g) V w') := fun V f g h => by
    have h9 := device_any f 1 g _ V h
    rw [xb1, xb2] at h9
    exact h9.mono fun e w' ⟨he, _, hf⟩ => ⟨he, hf⟩
  obtain ⟨va1, va2⟩ := took_fed 24 (by decide) p
  rw [if_pos (by omega)] at va1 va2
  obtain ⟨Xva, hXva⟩ : ∃ X, X = b64 (p.take 24) := ⟨_, rfl⟩
  rw [← hXva] at va1
  have Hva : Hid (∀ (V : World) (f : Nat → Nat) (g : Nat), Src V f 1 g (fed [] p) → Calls Try.prog 24 #[.pointer (some ⟨g, 0, none⟩)] V fun e w' => e = .returned (.tuple #[.string Xva, .int .i64 0]) ∧ Far (fun k => k = g) V w') := fun V f g h => by
    have h9 := auth_any f 1 g _ V h
    rw [va1, va2] at h9
    exact h9.mono fun e w' ⟨he, _, hf⟩ => ⟨he, hf⟩
  obtain ⟨vb1, vb2⟩ := took_fed 24 (by decide) q
  rw [if_pos (by omega)] at vb1 vb2
  obtain ⟨Xvb, hXvb⟩ : ∃ X, X = b64 (q.take 24) := ⟨_, rfl⟩
  rw [← hXvb] at vb1
  have Hvb : Hid (∀ (V : World) (f : Nat → Nat) (g : Nat), Src V f 1 g (fed [] q) → Calls Try.prog 24 #[.pointer (some ⟨g, 0, none⟩)] V fun e w' => e = .returned (.tuple #[.string Xvb, .int .i64 0]) ∧ Far (fun k => k = g) V w') := fun V f g h => by
    have h9 := auth_any f 1 g _ V h
    rw [vb1, vb2] at h9
    exact h9.mono fun e w' ⟨he, _, hf⟩ => ⟨he, hf⟩
  have Hna : Hid (∀ V : World, Below W.heap.size W V → Calls Try.prog 18 #[.slice A0 n0 c0] V fun e w' => ∃ g f, e = .returned (.pointer (some ⟨g, 0, none⟩)) ∧ V.heap.size ≤ g ∧ Src w' f 1 g (fed [] p) ∧ Below V.heap.size V w') := fun V hb =>
    (newSource_any (fun _ => 0) 1 p A0 n0 c0 V hn0 hc0 hp (hC0.below hb)).mono fun e w' ⟨g, he, hg, hS, hbl⟩ => ⟨g, _, he, hg, hS, hbl⟩
  have Hnb : Hid (∀ V : World, Below W.heap.size W V → Calls Try.prog 18 #[.slice A1 n1 c1] V fun e w' => ∃ g f, e = .returned (.pointer (some ⟨g, 0, none⟩)) ∧ V.heap.size ≤ g ∧ Src w' f 1 g (fed [] q) ∧ Below V.heap.size V w') := fun V hb =>
    (newSource_any (fun _ => 0) 1 q A1 n1 c1 V hn1 hc1 hq (hC1.below hb)).mono fun e w' ⟨g, he, hg, hS, hbl⟩ => ⟨g, _, he, hg, hS, hbl⟩
  obtain ⟨S24a, hS24a⟩ : ∃ S, S = txt (p.take 24) := ⟨_, rfl⟩
  obtain ⟨S24b, hS24b⟩ : ∃ S, S = txt (q.take 24) := ⟨_, rfl⟩
  have two24 := same_two p q 24 hp hq
  rw [← hXva, ← hXvb, ← hS24a, ← hS24b] at two24
  obtain ⟨r24, hr24⟩ : ∃ r, (S24a.toList == S24b.toList) = r := ⟨_, rfl⟩
  rw [hr24] at two24
  have hcv24a : Hid (∀ V : World, Below W.heap.size W V → (convert 31 9 (.slice A0 24 c0)).run Try.prog V = .ok (.string S24a) V) := fun V hb => by
    rw [hS24a]
    exact Kd.C_string (P := Try.prog) (w := V) (A := A0) (c := c0) Try.underlying31 Try.underlying5 Try.underlying9 (show Kd.C (Kd.int .u8) V A0 24 (toI (p.take 24)) from (hC0.below hb).take 24 (by omega))
  have hcv24b : Hid (∀ V : World, Below W.heap.size W V → (convert 31 9 (.slice A1 24 c1)).run Try.prog V = .ok (.string S24b) V) := fun V hb => by
    rw [hS24b]
    exact Kd.C_string (P := Try.prog) (w := V) (A := A1) (c := c1) Try.underlying31 Try.underlying5 Try.underlying9 (show Kd.C (Kd.int .u8) V A1 24 (toI (q.take 24)) from (hC1.below hb).take 24 (by omega))
  have hzva : Xva.size = 32 := by rw [hXva, b64_size, List.length_take, show min 24 p.length = 24 by omega]
  have i0 : (0 : Int) ≤ (n0 : Int) := by omega
  have n032 : decide ((32 : Int) ≤ (n0 : Int)) = false := decide_eq_false (by omega)
  have n024 : decide ((24 : Int) ≤ (n0 : Int)) = true := decide_eq_true (by omega)
  have n0d : (24 : Int) ≤ (c0 : Int) := by omega
  have n132 : decide ((32 : Int) ≤ (n1 : Int)) = false := decide_eq_false (by omega)
  have n124 : decide ((24 : Int) ≤ (n1 : Int)) = true := decide_eq_true (by omega)
  have n1d : (24 : Int) ≤ (c1 : Int) := by omega
  clear xa1 xa2 xb1 xb2 va1 va2 vb1 vb2 hn0 hn1 hp hq hC0 hC1 hka hkb hXva hXvb hS24a hS24b
  have hzzva : ((Xva.size : Int) == 32) = true := by rw [hzva]; rfl
  clear hzva
  go_enter Try.func7, Try.ntmps7
  go_wp2_with (first
    | (go_at_call 18; (with_reducible refine (Hna.out _ (Below.refl _ _)).mono ?_); rintro e w1 ⟨g1, f1, rfl, hg1, S1, hb1⟩
       have hb1' : Below W.heap.size W w1 := hb1)
    | (go_at_call 23; (with_reducible refine (Hxa.out _ _ g1 S1).mono ?_); rintro e w2 ⟨rfl, F2⟩
       have hb2' : Below W.heap.size W w2 := hb1'.trans (F2.below (fun n hn e => by omega) hb1'.size)
       clear S1)
    | (go_at_call 18; (with_reducible refine (Hnb.out _ hb2').mono ?_); rintro e w3 ⟨g3, f3, rfl, hg3, S3, hb3⟩
       have hb3' : Below W.heap.size W w3 := hb2'.trans (hb3.mono hb2'.size))
    | (go_at_call 23; (with_reducible refine (Hxb.out _ _ g3 S3).mono ?_); rintro e w4 ⟨rfl, F4⟩
       have hb4' : Below W.heap.size W w4 := hb3'.trans (F4.below (fun n hn e => by have := hb2'.size; omega) hb3'.size)
       clear S3)
    | (go_at_call 18; (with_reducible refine (Hna.out _ hb4').mono ?_); rintro e w5 ⟨g5, f5, rfl, hg5, S5, hb5⟩
       have hb5' : Below W.heap.size W w5 := hb4'.trans (hb5.mono hb4'.size))
    | (go_at_call 24; (with_reducible refine (Hva.out _ _ g5 S5).mono ?_); rintro e w6 ⟨rfl, F6⟩
       have hb6' : Below W.heap.size W w6 := hb5'.trans (F6.below (fun n hn e => by have := hb4'.size; omega) hb5'.size)
       clear S5)
    | (go_at_call 18; (with_reducible refine (Hnb.out _ hb6').mono ?_); rintro e w7 ⟨g7, f7, rfl, hg7, S7, hb7⟩
       have hb7' : Below W.heap.size W w7 := hb6'.trans (hb7.mono hb6'.size))
    | (go_at_call 24; (with_reducible refine (Hvb.out _ _ g7 S7).mono ?_); rintro e w8 ⟨rfl, F8⟩
       have hb8' : Below W.heap.size W w8 := hb7'.trans (F8.below (fun n hn e => by have := hb6'.size; omega) hb7'.size)
       clear S7)
    | (go_at_call 11; (with_reducible refine (num_q _ _).mono ?_); rintro e w5 ⟨rfl, rfl⟩)
    | (go_at_call 12; (with_reducible refine (live_any _).mono ?_); rintro e w9 ⟨rfl, hb9⟩
       have hb9' := hb8'.trans (hb9.mono hb8'.size)))
  go_quiet ((go_at_call 11; first | exact quiet_left (num_q _ _) | exact quiet_add_left (num_q _ _)))
  go_wp2
  have cva24 := fun n : Nat => hcv24a.out (w9.drewN n) (below_drewN hb9' n)
  have cvb24 := fun n : Nat => hcv24b.out (w9.drewN n) (below_drewN hb9' n)
  go_quiet ((go_at_call 11; first | exact quiet_left (num_q _ _) | exact quiet_add_left (num_q _ _)))
  go_wp2
  go_ret
  exact ⟨rfl, below_drewN hb9' _⟩
set_option maxRecDepth 100000 in
set_option maxHeartbeats 4000000 in
theorem apart_12 (p q : List Nat) (A0 : Option Addr) (n0 c0 : Nat) (A1 : Option Addr) (n1 c1 : Nat) (W : World) (hn0 : n0 = p.length) (hn1 : n1 = q.length) (hp : All 256 p) (hq : All 256 q) (hc0 : n0 ≤ c0) (hc1 : n1 ≤ c1) (hC0 : C8 W A0 p.length p) (hC1 : C8 W A1 q.length q) (hka : 24 ≤ n0 ∧ n0 < 32) (hkb : 32 ≤ n1) :
    Calls Try.prog 7 #[.slice A0 n0 c0, .slice A1 n1 c1] W fun e w' => e = .returned (.bool true) ∧ Below W.heap.size W w' := by
  obtain ⟨xa1, xa2⟩ := took_fed 32 (by decide) p
  rw [if_neg (by omega)] at xa1 xa2
  have Hxa : Hid (∀ (V : World) (f : Nat → Nat) (g : Nat), Src V f 1 g (fed [] p) → Calls Try.prog 23 #[.pointer (some ⟨g, 0, none⟩)] V fun e w' => e = .returned (.tuple #[.string ⟨#[]⟩, .int .i64 90]) ∧ Far (fun k => k = g) V w') := fun V f g h => by
    have h9 := device_any f 1 g _ V h
    rw [xa1, xa2] at h9
    exact h9.mono fun e w' ⟨he, _, hf⟩ => ⟨he, hf⟩
  obtain ⟨xb1, xb2⟩ := took_fed 32 (by decide) q
  rw [if_pos (by omega)] at xb1 xb2
  obtain ⟨Xxb, hXxb⟩ : ∃ X, X = b64 (q.take 32) := ⟨_, rfl⟩
  rw [← hXxb] at xb1
  have Hxb : Hid (∀ (V : World) (f : Nat → Nat) (g : Nat), Src V f 1 g (fed [] q) → Calls Try.prog 23 #[.pointer (some ⟨g, 0, none⟩)] V fun e w' => e = .returned (.tuple #[.string Xxb, .int .i64 0]) ∧ Far (fun k => k = g) V w') := fun V f g h => by
    have h9 := device_any f 1 g _ V h
    rw [xb1, xb2] at h9
    exact h9.mono fun e w' ⟨he, _, hf⟩ => ⟨he, hf⟩
  obtain ⟨va1, va2⟩ := took_fed 24 (by decide) p
  rw [if_pos (by omega)] at va1 va2
  obtain ⟨Xva, hXva⟩ : ∃ X, X = b64 (p.take 24) := ⟨_, rfl⟩
  rw [← hXva] at va1
  have Hva : Hid (∀ (V : World) (f : Nat → Nat) (g : Nat), Src V f 1 g (fed [] p) → Calls Try.prog 24 #[.pointer (some ⟨g, 0, none⟩)] V fun e w' => e = .returned (.tuple #[.string Xva, .int .i64 0]) ∧ Far (fun k => k = g) V w') := fun V f g h => by
    have h9 := auth_any f 1 g _ V h
    rw [va1, va2] at h9
    exact h9.mono fun e w' ⟨he, _, hf⟩ => ⟨he, hf⟩
  obtain ⟨vb1, vb2⟩ := took_fed 24 (by decide) q
  rw [if_pos (by omega)] at vb1 vb2
  obtain ⟨Xvb, hXvb⟩ : ∃ X, X = b64 (q.take 24) := ⟨_, rfl⟩
  rw [← hXvb] at vb1
  have Hvb : Hid (∀ (V : World) (f : Nat → Nat) (g : Nat), Src V f 1 g (fed [] q) → Calls Try.prog 24 #[.pointer (some ⟨g, 0, none⟩)] V fun e w' => e = .returned (.tuple #[.string Xvb, .int .i64 0]) ∧ Far (fun k => k = g) V w') := fun V f g h => by
    have h9 := auth_any f 1 g _ V h
    rw [vb1, vb2] at h9
    exact h9.mono fun e w' ⟨he, _, hf⟩ => ⟨he, hf⟩
  have Hna : Hid (∀ V : World, Below W.heap.size W V → Calls Try.prog 18 #[.slice A0 n0 c0] V fun e w' => ∃ g f, e = .returned (.pointer (some ⟨g, 0, none⟩)) ∧ V.heap.size ≤ g ∧ Src w' f 1 g (fed [] p) ∧ Below V.heap.size V w') := fun V hb =>
    (newSource_any (fun _ => 0) 1 p A0 n0 c0 V hn0 hc0 hp (hC0.below hb)).mono fun e w' ⟨g, he, hg, hS, hbl⟩ => ⟨g, _, he, hg, hS, hbl⟩
  have Hnb : Hid (∀ V : World, Below W.heap.size W V → Calls Try.prog 18 #[.slice A1 n1 c1] V fun e w' => ∃ g f, e = .returned (.pointer (some ⟨g, 0, none⟩)) ∧ V.heap.size ≤ g ∧ Src w' f 1 g (fed [] q) ∧ Below V.heap.size V w') := fun V hb =>
    (newSource_any (fun _ => 0) 1 q A1 n1 c1 V hn1 hc1 hq (hC1.below hb)).mono fun e w' ⟨g, he, hg, hS, hbl⟩ => ⟨g, _, he, hg, hS, hbl⟩
  obtain ⟨S24a, hS24a⟩ : ∃ S, S = txt (p.take 24) := ⟨_, rfl⟩
  obtain ⟨S24b, hS24b⟩ : ∃ S, S = txt (q.take 24) := ⟨_, rfl⟩
  have two24 := same_two p q 24 hp hq
  rw [← hXva, ← hXvb, ← hS24a, ← hS24b] at two24
  obtain ⟨r24, hr24⟩ : ∃ r, (S24a.toList == S24b.toList) = r := ⟨_, rfl⟩
  rw [hr24] at two24
  have hcv24a : Hid (∀ V : World, Below W.heap.size W V → (convert 31 9 (.slice A0 24 c0)).run Try.prog V = .ok (.string S24a) V) := fun V hb => by
    rw [hS24a]
    exact Kd.C_string (P := Try.prog) (w := V) (A := A0) (c := c0) Try.underlying31 Try.underlying5 Try.underlying9 (show Kd.C (Kd.int .u8) V A0 24 (toI (p.take 24)) from (hC0.below hb).take 24 (by omega))
  have hcv24b : Hid (∀ V : World, Below W.heap.size W V → (convert 31 9 (.slice A1 24 c1)).run Try.prog V = .ok (.string S24b) V) := fun V hb => by
    rw [hS24b]
    exact Kd.C_string (P := Try.prog) (w := V) (A := A1) (c := c1) Try.underlying31 Try.underlying5 Try.underlying9 (show Kd.C (Kd.int .u8) V A1 24 (toI (q.take 24)) from (hC1.below hb).take 24 (by omega))
  have hzva : Xva.size = 32 := by rw [hXva, b64_size, List.length_take, show min 24 p.length = 24 by omega]
  have i0 : (0 : Int) ≤ (n0 : Int) := by omega
  have n032 : decide ((32 : Int) ≤ (n0 : Int)) = false := decide_eq_false (by omega)
  have n024 : decide ((24 : Int) ≤ (n0 : Int)) = true := decide_eq_true (by omega)
  have n0d : (24 : Int) ≤ (c0 : Int) := by omega
  have n132 : decide ((32 : Int) ≤ (n1 : Int)) = true := decide_eq_true (by omega)
  have n124 : decide ((24 : Int) ≤ (n1 : Int)) = true := decide_eq_true (by omega)
  have n1c : (32 : Int) ≤ (c1 : Int) := by omega
  have n1d : (24 : Int) ≤ (c1 : Int) := by omega
  clear xa1 xa2 xb1 xb2 va1 va2 vb1 vb2 hn0 hn1 hp hq hC0 hC1 hka hkb hXxb hXva hXvb hS24a hS24b
  have hzzva : ((Xva.size : Int) == 32) = true := by rw [hzva]; rfl
  clear hzva
  go_enter Try.func7, Try.ntmps7
  go_wp2_with (first
    | (go_at_call 18; (with_reducible refine (Hna.out _ (Below.refl _ _)).mono ?_); rintro e w1 ⟨g1, f1, rfl, hg1, S1, hb1⟩
       have hb1' : Below W.heap.size W w1 := hb1)
    | (go_at_call 23; (with_reducible refine (Hxa.out _ _ g1 S1).mono ?_); rintro e w2 ⟨rfl, F2⟩
       have hb2' : Below W.heap.size W w2 := hb1'.trans (F2.below (fun n hn e => by omega) hb1'.size)
       clear S1)
    | (go_at_call 18; (with_reducible refine (Hnb.out _ hb2').mono ?_); rintro e w3 ⟨g3, f3, rfl, hg3, S3, hb3⟩
       have hb3' : Below W.heap.size W w3 := hb2'.trans (hb3.mono hb2'.size))
    | (go_at_call 23; (with_reducible refine (Hxb.out _ _ g3 S3).mono ?_); rintro e w4 ⟨rfl, F4⟩
       have hb4' : Below W.heap.size W w4 := hb3'.trans (F4.below (fun n hn e => by have := hb2'.size; omega) hb3'.size)
       clear S3)
    | (go_at_call 18; (with_reducible refine (Hna.out _ hb4').mono ?_); rintro e w5 ⟨g5, f5, rfl, hg5, S5, hb5⟩
       have hb5' : Below W.heap.size W w5 := hb4'.trans (hb5.mono hb4'.size))
    | (go_at_call 24; (with_reducible refine (Hva.out _ _ g5 S5).mono ?_); rintro e w6 ⟨rfl, F6⟩
       have hb6' : Below W.heap.size W w6 := hb5'.trans (F6.below (fun n hn e => by have := hb4'.size; omega) hb5'.size)
       clear S5)
    | (go_at_call 18; (with_reducible refine (Hnb.out _ hb6').mono ?_); rintro e w7 ⟨g7, f7, rfl, hg7, S7, hb7⟩
       have hb7' : Below W.heap.size W w7 := hb6'.trans (hb7.mono hb6'.size))
    | (go_at_call 24; (with_reducible refine (Hvb.out _ _ g7 S7).mono ?_); rintro e w8 ⟨rfl, F8⟩
       have hb8' : Below W.heap.size W w8 := hb7'.trans (F8.below (fun n hn e => by have := hb6'.size; omega) hb7'.size)
       clear S7)
    | (go_at_call 11; (with_reducible refine (num_q _ _).mono ?_); rintro e w5 ⟨rfl, rfl⟩)
    | (go_at_call 12; (with_reducible refine (live_any _).mono ?_); rintro e w9 ⟨rfl, hb9⟩
       have hb9' := hb8'.trans (hb9.mono hb8'.size)))
  go_quiet ((go_at_call 11; first | exact quiet_left (num_q _ _) | exact quiet_add_left (num_q _ _)))
  go_wp2
  have cva24 := fun n : Nat => hcv24a.out (w9.drewN n) (below_drewN hb9' n)
  have cvb24 := fun n : Nat => hcv24b.out (w9.drewN n) (below_drewN hb9' n)
  go_quiet ((go_at_call 11; first | exact quiet_left (num_q _ _) | exact quiet_add_left (num_q _ _)))
  go_wp2
  go_ret
  exact ⟨rfl, below_drewN hb9' _⟩
set_option maxRecDepth 100000 in
set_option maxHeartbeats 4000000 in
theorem apart_20 (p q : List Nat) (A0 : Option Addr) (n0 c0 : Nat) (A1 : Option Addr) (n1 c1 : Nat) (W : World) (hn0 : n0 = p.length) (hn1 : n1 = q.length) (hp : All 256 p) (hq : All 256 q) (hc0 : n0 ≤ c0) (hc1 : n1 ≤ c1) (hC0 : C8 W A0 p.length p) (hC1 : C8 W A1 q.length q) (hka : 32 ≤ n0) (hkb : n1 < 24) :
    Calls Try.prog 7 #[.slice A0 n0 c0, .slice A1 n1 c1] W fun e w' => e = .returned (.bool true) ∧ Below W.heap.size W w' := by
  obtain ⟨xa1, xa2⟩ := took_fed 32 (by decide) p
  rw [if_pos (by omega)] at xa1 xa2
  obtain ⟨Xxa, hXxa⟩ : ∃ X, X = b64 (p.take 32) := ⟨_, rfl⟩
  rw [← hXxa] at xa1
  have Hxa : Hid (∀ (V : World) (f : Nat → Nat) (g : Nat), Src V f 1 g (fed [] p) → Calls Try.prog 23 #[.pointer (some ⟨g, 0, none⟩)] V fun e w' => e = .returned (.tuple #[.string Xxa, .int .i64 0]) ∧ Far (fun k => k = g) V w') := fun V f g h => by
    have h9 := device_any f 1 g _ V h
    rw [xa1, xa2] at h9
    exact h9.mono fun e w' ⟨he, _, hf⟩ => ⟨he, hf⟩
  obtain ⟨xb1, xb2⟩ := took_fed 32 (by decide) q
  rw [if_neg (by omega)] at xb1 xb2
  have Hxb : Hid (∀ (V : World) (f : Nat → Nat) (g : Nat), Src V f 1 g (fed [] q) → Calls Try.prog 23 #[.pointer (some ⟨g, 0, none⟩)] V fun e w' => e = .returned (.tuple #[.string ⟨#[]⟩, .int .i64 90]) ∧ Far (fun k => k = g) V w') := fun V f g h => by
    have h9 := device_any f 1 g _ V h
    rw [xb1, xb2] at h9
    exact h9.mono fun e w' ⟨he, _, hf⟩ => ⟨he, hf⟩
  obtain ⟨va1, va2⟩ := took_fed 24 (by decide) p
  rw [if_pos (by omega)] at va1 va2
  obtain ⟨Xva, hXva⟩ : ∃ X, X = b64 (p.take 24) := ⟨_, rfl⟩
  rw [← hXva] at va1
  have Hva : Hid (∀ (V : World) (f : Nat → Nat) (g : Nat), Src V f 1 g (fed [] p) → Calls Try.prog 24 #[.pointer (some ⟨g, 0, none⟩)] V fun e w' => e = .returned (.tuple #[.string Xva, .int .i64 0]) ∧ Far (fun k => k = g) V w') := fun V f g h => by
    have h9 := auth_any f 1 g _ V h
    rw [va1, va2] at h9
    exact h9.mono fun e w' ⟨he, _, hf⟩ => ⟨he, hf⟩
  obtain ⟨vb1, vb2⟩ := took_fed 24 (by decide) q
  rw [if_neg (by omega)] at vb1 vb2
  have Hvb : Hid (∀ (V : World) (f : Nat → Nat) (g : Nat), Src V f 1 g (fed [] q) → Calls Try.prog 24 #[.pointer (some ⟨g, 0, none⟩)] V fun e w' => e = .returned (.tuple #[.string ⟨#[]⟩, .int .i64 90]) ∧ Far (fun k => k = g) V w') := fun V f g h => by
    have h9 := auth_any f 1 g _ V h
    rw [vb1, vb2] at h9
    exact h9.mono fun e w' ⟨he, _, hf⟩ => ⟨he, hf⟩
  have Hna : Hid (∀ V : World, Below W.heap.size W V → Calls Try.prog 18 #[.slice A0 n0 c0] V fun e w' => ∃ g f, e = .returned (.pointer (some ⟨g, 0, none⟩)) ∧ V.heap.size ≤ g ∧ Src w' f 1 g (fed [] p) ∧ Below V.heap.size V w') := fun V hb =>
    (newSource_any (fun _ => 0) 1 p A0 n0 c0 V hn0 hc0 hp (hC0.below hb)).mono fun e w' ⟨g, he, hg, hS, hbl⟩ => ⟨g, _, he, hg, hS, hbl⟩
  have Hnb : Hid (∀ V : World, Below W.heap.size W V → Calls Try.prog 18 #[.slice A1 n1 c1] V fun e w' => ∃ g f, e = .returned (.pointer (some ⟨g, 0, none⟩)) ∧ V.heap.size ≤ g ∧ Src w' f 1 g (fed [] q) ∧ Below V.heap.size V w') := fun V hb =>
    (newSource_any (fun _ => 0) 1 q A1 n1 c1 V hn1 hc1 hq (hC1.below hb)).mono fun e w' ⟨g, he, hg, hS, hbl⟩ => ⟨g, _, he, hg, hS, hbl⟩
  have hzxa : Xxa.size = 43 := by rw [hXxa, b64_size, List.length_take, show min 32 p.length = 32 by omega]
  have hzva : Xva.size = 32 := by rw [hXva, b64_size, List.length_take, show min 24 p.length = 24 by omega]
  have i0 : (0 : Int) ≤ (n0 : Int) := by omega
  have n032 : decide ((32 : Int) ≤ (n0 : Int)) = true := decide_eq_true (by omega)
  have n024 : decide ((24 : Int) ≤ (n0 : Int)) = true := decide_eq_true (by omega)
  have n0c : (32 : Int) ≤ (c0 : Int) := by omega
  have n0d : (24 : Int) ≤ (c0 : Int) := by omega
  have n132 : decide ((32 : Int) ≤ (n1 : Int)) = false := decide_eq_false (by omega)
  have n124 : decide ((24 : Int) ≤ (n1 : Int)) = false := decide_eq_false (by omega)
  clear xa1 xa2 xb1 xb2 va1 va2 vb1 vb2 hn0 hn1 hp hq hC0 hC1 hka hkb hXxa hXva
  have hzzxa : ((Xxa.size : Int) == 43) = true := by rw [hzxa]; rfl
  clear hzxa
  have hzzva : ((Xva.size : Int) == 32) = true := by rw [hzva]; rfl
  clear hzva
  go_enter Try.func7, Try.ntmps7
  go_wp2_with (first
    | (go_at_call 18; (with_reducible refine (Hna.out _ (Below.refl _ _)).mono ?_); rintro e w1 ⟨g1, f1, rfl, hg1, S1, hb1⟩
       have hb1' : Below W.heap.size W w1 := hb1)
    | (go_at_call 23; (with_reducible refine (Hxa.out _ _ g1 S1).mono ?_); rintro e w2 ⟨rfl, F2⟩
       have hb2' : Below W.heap.size W w2 := hb1'.trans (F2.below (fun n hn e => by omega) hb1'.size)
       clear S1)
    | (go_at_call 18; (with_reducible refine (Hnb.out _ hb2').mono ?_); rintro e w3 ⟨g3, f3, rfl, hg3, S3, hb3⟩
       have hb3' : Below W.heap.size W w3 := hb2'.trans (hb3.mono hb2'.size))
    | (go_at_call 23; (with_reducible refine (Hxb.out _ _ g3 S3).mono ?_); rintro e w4 ⟨rfl, F4⟩
       have hb4' : Below W.heap.size W w4 := hb3'.trans (F4.below (fun n hn e => by have := hb2'.size; omega) hb3'.size)
       clear S3)
    | (go_at_call 18; (with_reducible refine (Hna.out _ hb4').mono ?_); rintro e w5 ⟨g5, f5, rfl, hg5, S5, hb5⟩
       have hb5' : Below W.heap.size W w5 := hb4'.trans (hb5.mono hb4'.size))
    | (go_at_call 24; (with_reducible refine (Hva.out _ _ g5 S5).mono ?_); rintro e w6 ⟨rfl, F6⟩
       have hb6' : Below W.heap.size W w6 := hb5'.trans (F6.below (fun n hn e => by have := hb4'.size; omega) hb5'.size)
       clear S5)
    | (go_at_call 18; (with_reducible refine (Hnb.out _ hb6').mono ?_); rintro e w7 ⟨g7, f7, rfl, hg7, S7, hb7⟩
       have hb7' : Below W.heap.size W w7 := hb6'.trans (hb7.mono hb6'.size))
    | (go_at_call 24; (with_reducible refine (Hvb.out _ _ g7 S7).mono ?_); rintro e w8 ⟨rfl, F8⟩
       have hb8' : Below W.heap.size W w8 := hb7'.trans (F8.below (fun n hn e => by have := hb6'.size; omega) hb7'.size)
       clear S7)
    | (go_at_call 11; (with_reducible refine (num_q _ _).mono ?_); rintro e w5 ⟨rfl, rfl⟩)
    | (go_at_call 12; (with_reducible refine (live_any _).mono ?_); rintro e w9 ⟨rfl, hb9⟩
       have hb9' := hb8'.trans (hb9.mono hb8'.size)))
  go_quiet ((go_at_call 11; first | exact quiet_left (num_q _ _) | exact quiet_add_left (num_q _ _)))
  go_wp2
  go_quiet ((go_at_call 11; first | exact quiet_left (num_q _ _) | exact quiet_add_left (num_q _ _)))
  go_wp2
  go_ret
  exact ⟨rfl, below_drewN hb9' _⟩
set_option maxRecDepth 100000 in
set_option maxHeartbeats 4000000 in
theorem apart_21 (p q : List Nat) (A0 : Option Addr) (n0 c0 : Nat) (A1 : Option Addr) (n1 c1 : Nat) (W : World) (hn0 : n0 = p.length) (hn1 : n1 = q.length) (hp : All 256 p) (hq : All 256 q) (hc0 : n0 ≤ c0) (hc1 : n1 ≤ c1) (hC0 : C8 W A0 p.length p) (hC1 : C8 W A1 q.length q) (hka : 32 ≤ n0) (hkb : 24 ≤ n1 ∧ n1 < 32) :
    Calls Try.prog 7 #[.slice A0 n0 c0, .slice A1 n1 c1] W fun e w' => e = .returned (.bool true) ∧ Below W.heap.size W w' := by
  obtain ⟨xa1, xa2⟩ := took_fed 32 (by decide) p
  rw [if_pos (by omega)] at xa1 xa2
  obtain ⟨Xxa, hXxa⟩ : ∃ X, X = b64 (p.take 32) := ⟨_, rfl⟩
  rw [← hXxa] at xa1
  have Hxa : Hid (∀ (V : World) (f : Nat → Nat) (g : Nat), Src V f 1 g (fed [] p) → Calls Try.prog 23 #[.pointer (some ⟨g, 0, none⟩)] V fun e w' => e = .returned (.tuple #[.string Xxa, .int .i64 0]) ∧ Far (fun k => k = g) V w') := fun V f g h => by
    have h9 := device_any f 1 g _ V h
    rw [xa1, xa2] at h9
    exact h9.mono fun e w' ⟨he, _, hf⟩ => ⟨he, hf⟩
  obtain ⟨xb1, xb2⟩ := took_fed 32 (by decide) q
  rw [if_neg (by omega)] at xb1 xb2
  have Hxb : Hid (∀ (V : World) (f : Nat → Nat) (g : Nat), Src V f 1 g (fed [] q) → Calls Try.prog 23 #[.pointer (some ⟨g, 0, none⟩)] V fun e w' => e = .returned (.tuple #[.string ⟨#[]⟩, .int .i64 90]) ∧ Far (fun k => k = g) V w') := fun V f g h => by
    have h9 := device_any f 1 g _ V h
    rw [xb1, xb2] at h9
    exact h9.mono fun e w' ⟨he, _, hf⟩ => ⟨he, hf⟩
  obtain ⟨va1, va2⟩ := took_fed 24 (by decide) p
  rw [if_pos (by omega)] at va1 va2
  obtain ⟨Xva, hXva⟩ : ∃ X, X = b64 (p.take 24) := ⟨_, rfl⟩
  rw [← hXva] at va1
  have Hva : Hid (∀ (V : World) (f : Nat → Nat) (g : Nat), Src V f 1 g (fed [] p) → Calls Try.prog 24 #[.pointer (some ⟨g, 0, none⟩)] V fun e w' => e = .returned (.tuple #[.string Xva, .int .i64 0]) ∧ Far (fun k => k = g) V w') := fun V f g h => by
    have h9 := auth_any f 1 g _ V h
    rw [va1, va2] at h9
    exact h9.mono fun e w' ⟨he, _, hf⟩ => ⟨he, hf⟩
  obtain ⟨vb1, vb2⟩ := took_fed 24 (by decide) q
  rw [if_pos (by omega)] at vb1 vb2
  obtain ⟨Xvb, hXvb⟩ : ∃ X, X = b64 (q.take 24) := ⟨_, rfl⟩
  rw [← hXvb] at vb1
  have Hvb : Hid (∀ (V : World) (f : Nat → Nat) (g : Nat), Src V f 1 g (fed [] q) → Calls Try.prog 24 #[.pointer (some ⟨g, 0, none⟩)] V fun e w' => e = .returned (.tuple #[.string Xvb, .int .i64 0]) ∧ Far (fun k => k = g) V w') := fun V f g h => by
    have h9 := auth_any f 1 g _ V h
    rw [vb1, vb2] at h9
    exact h9.mono fun e w' ⟨he, _, hf⟩ => ⟨he, hf⟩
  have Hna : Hid (∀ V : World, Below W.heap.size W V → Calls Try.prog 18 #[.slice A0 n0 c0] V fun e w' => ∃ g f, e = .returned (.pointer (some ⟨g, 0, none⟩)) ∧ V.heap.size ≤ g ∧ Src w' f 1 g (fed [] p) ∧ Below V.heap.size V w') := fun V hb =>
    (newSource_any (fun _ => 0) 1 p A0 n0 c0 V hn0 hc0 hp (hC0.below hb)).mono fun e w' ⟨g, he, hg, hS, hbl⟩ => ⟨g, _, he, hg, hS, hbl⟩
  have Hnb : Hid (∀ V : World, Below W.heap.size W V → Calls Try.prog 18 #[.slice A1 n1 c1] V fun e w' => ∃ g f, e = .returned (.pointer (some ⟨g, 0, none⟩)) ∧ V.heap.size ≤ g ∧ Src w' f 1 g (fed [] q) ∧ Below V.heap.size V w') := fun V hb =>
    (newSource_any (fun _ => 0) 1 q A1 n1 c1 V hn1 hc1 hq (hC1.below hb)).mono fun e w' ⟨g, he, hg, hS, hbl⟩ => ⟨g, _, he, hg, hS, hbl⟩
  obtain ⟨S24a, hS24a⟩ : ∃ S, S = txt (p.take 24) := ⟨_, rfl⟩
  obtain ⟨S24b, hS24b⟩ : ∃ S, S = txt (q.take 24) := ⟨_, rfl⟩
  have two24 := same_two p q 24 hp hq
  rw [← hXva, ← hXvb, ← hS24a, ← hS24b] at two24
  obtain ⟨r24, hr24⟩ : ∃ r, (S24a.toList == S24b.toList) = r := ⟨_, rfl⟩
  rw [hr24] at two24
  have hcv24a : Hid (∀ V : World, Below W.heap.size W V → (convert 31 9 (.slice A0 24 c0)).run Try.prog V = .ok (.string S24a) V) := fun V hb => by
    rw [hS24a]
    exact Kd.C_string (P := Try.prog) (w := V) (A := A0) (c := c0) Try.underlying31 Try.underlying5 Try.underlying9 (show Kd.C (Kd.int .u8) V A0 24 (toI (p.take 24)) from (hC0.below hb).take 24 (by omega))
  have hcv24b : Hid (∀ V : World, Below W.heap.size W V → (convert 31 9 (.slice A1 24 c1)).run Try.prog V = .ok (.string S24b) V) := fun V hb => by
    rw [hS24b]
    exact Kd.C_string (P := Try.prog) (w := V) (A := A1) (c := c1) Try.underlying31 Try.underlying5 Try.underlying9 (show Kd.C (Kd.int .u8) V A1 24 (toI (q.take 24)) from (hC1.below hb).take 24 (by omega))
  have hzxa : Xxa.size = 43 := by rw [hXxa, b64_size, List.length_take, show min 32 p.length = 32 by omega]
  have hzva : Xva.size = 32 := by rw [hXva, b64_size, List.length_take, show min 24 p.length = 24 by omega]
  have i0 : (0 : Int) ≤ (n0 : Int) := by omega
  have n032 : decide ((32 : Int) ≤ (n0 : Int)) = true := decide_eq_true (by omega)
  have n024 : decide ((24 : Int) ≤ (n0 : Int)) = true := decide_eq_true (by omega)
  have n0c : (32 : Int) ≤ (c0 : Int) := by omega
  have n0d : (24 : Int) ≤ (c0 : Int) := by omega
  have n132 : decide ((32 : Int) ≤ (n1 : Int)) = false := decide_eq_false (by omega)
  have n124 : decide ((24 : Int) ≤ (n1 : Int)) = true := decide_eq_true (by omega)
  have n1d : (24 : Int) ≤ (c1 : Int) := by omega
  clear xa1 xa2 xb1 xb2 va1 va2 vb1 vb2 hn0 hn1 hp hq hC0 hC1 hka hkb hXxa hXva hXvb hS24a hS24b
  have hzzxa : ((Xxa.size : Int) == 43) = true := by rw [hzxa]; rfl
  clear hzxa
  have hzzva : ((Xva.size : Int) == 32) = true := by rw [hzva]; rfl
  clear hzva
  go_enter Try.func7, Try.ntmps7
  go_wp2_with (first
    | (go_at_call 18; (with_reducible refine (Hna.out _ (Below.refl _ _)).mono ?_); rintro e w1 ⟨g1, f1, rfl, hg1, S1, hb1⟩
       have hb1' : Below W.heap.size W w1 := hb1)
    | (go_at_call 23; (with_reducible refine (Hxa.out _ _ g1 S1).mono ?_); rintro e w2 ⟨rfl, F2⟩
       have hb2' : Below W.heap.size W w2 := hb1'.trans (F2.below (fun n hn e => by omega) hb1'.size)
       clear S1)
    | (go_at_call 18; (with_reducible refine (Hnb.out _ hb2').mono ?_); rintro e w3 ⟨g3, f3, rfl, hg3, S3, hb3⟩
       have hb3' : Below W.heap.size W w3 := hb2'.trans (hb3.mono hb2'.size))
    | (go_at_call 23; (with_reducible refine (Hxb.out _ _ g3 S3).mono ?_); rintro e w4 ⟨rfl, F4⟩
       have hb4' : Below W.heap.size W w4 := hb3'.trans (F4.below (fun n hn e => by have := hb2'.size; omega) hb3'.size)
       clear S3)
    | (go_at_call 18; (with_reducible refine (Hna.out _ hb4').mono ?_); rintro e w5 ⟨g5, f5, rfl, hg5, S5, hb5⟩
       have hb5' : Below W.heap.size W w5 := hb4'.trans (hb5.mono hb4'.size))
    | (go_at_call 24; (with_reducible refine (Hva.out _ _ g5 S5).mono ?_); rintro e w6 ⟨rfl, F6⟩
       have hb6' : Below W.heap.size W w6 := hb5'.trans (F6.below (fun n hn e => by have := hb4'.size; omega) hb5'.size)
       clear S5)
    | (go_at_call 18; (with_reducible refine (Hnb.out _ hb6').mono ?_); rintro e w7 ⟨g7, f7, rfl, hg7, S7, hb7⟩
       have hb7' : Below W.heap.size W w7 := hb6'.trans (hb7.mono hb6'.size))
    | (go_at_call 24; (with_reducible refine (Hvb.out _ _ g7 S7).mono ?_); rintro e w8 ⟨rfl, F8⟩
       have hb8' : Below W.heap.size W w8 := hb7'.trans (F8.below (fun n hn e => by have := hb6'.size; omega) hb7'.size)
       clear S7)
    | (go_at_call 11; (with_reducible refine (num_q _ _).mono ?_); rintro e w5 ⟨rfl, rfl⟩)
    | (go_at_call 12; (with_reducible refine (live_any _).mono ?_); rintro e w9 ⟨rfl, hb9⟩
       have hb9' := hb8'.trans (hb9.mono hb8'.size)))
  go_quiet ((go_at_call 11; first | exact quiet_left (num_q _ _) | exact quiet_add_left (num_q _ _)))
  go_wp2
  have cva24 := fun n : Nat => hcv24a.out (w9.drewN n) (below_drewN hb9' n)
  have cvb24 := fun n : Nat => hcv24b.out (w9.drewN n) (below_drewN hb9' n)
  go_quiet ((go_at_call 11; first | exact quiet_left (num_q _ _) | exact quiet_add_left (num_q _ _)))
  go_wp2
  go_ret
  exact ⟨rfl, below_drewN hb9' _⟩
set_option maxRecDepth 100000 in
set_option maxHeartbeats 4000000 in
theorem apart_22 (p q : List Nat) (A0 : Option Addr) (n0 c0 : Nat) (A1 : Option Addr) (n1 c1 : Nat) (W : World) (hn0 : n0 = p.length) (hn1 : n1 = q.length) (hp : All 256 p) (hq : All 256 q) (hc0 : n0 ≤ c0) (hc1 : n1 ≤ c1) (hC0 : C8 W A0 p.length p) (hC1 : C8 W A1 q.length q) (hka : 32 ≤ n0) (hkb : 32 ≤ n1) :
    Calls Try.prog 7 #[.slice A0 n0 c0, .slice A1 n1 c1] W fun e w' => e = .returned (.bool true) ∧ Below W.heap.size W w' := by
  obtain ⟨xa1, xa2⟩ := took_fed 32 (by decide) p
  rw [if_pos (by omega)] at xa1 xa2
  obtain ⟨Xxa, hXxa⟩ : ∃ X, X = b64 (p.take 32) := ⟨_, rfl⟩
  rw [← hXxa] at xa1
  have Hxa : Hid (∀ (V : World) (f : Nat → Nat) (g : Nat), Src V f 1 g (fed [] p) → Calls Try.prog 23 #[.pointer (some ⟨g, 0, none⟩)] V fun e w' => e = .returned (.tuple #[.string Xxa, .int .i64 0]) ∧ Far (fun k => k = g) V w') := fun V f g h => by
    have h9 := device_any f 1 g _ V h
    rw [xa1, xa2] at h9
    exact h9.mono fun e w' ⟨he, _, hf⟩ => ⟨he, hf⟩
  obtain ⟨xb1, xb2⟩ := took_fed 32 (by decide) q
  rw [if_pos (by omega)] at xb1 xb2
  obtain ⟨Xxb, hXxb⟩ : ∃ X, X = b64 (q.take 32) := ⟨_, rfl⟩
  rw [← hXxb] at xb1
  have Hxb : Hid (∀ (V : World) (f : Nat → Nat) (g : Nat), Src V f 1 g (fed [] q) → Calls Try.prog 23 #[.pointer (some ⟨g, 0, none⟩)] V fun e w' => e = .returned (.tuple #[.string Xxb, .int .i64 0]) ∧ Far (fun k => k = g) V w') := fun V f g h => by
    have h9 := device_any f 1 g _ V h
    rw [xb1, xb2] at h9
    exact h9.mono fun e w' ⟨he, _, hf⟩ => ⟨he, hf⟩
  obtain ⟨va1, va2⟩ := took_fed 24 (by decide) p
  rw [if_pos (by omega)] at va1 va2
  obtain ⟨Xva, hXva⟩ : ∃ X, X = b64 (p.take 24) := ⟨_, rfl⟩
  rw [← hXva] at va1
  have Hva : Hid (∀ (V : World) (f : Nat → Nat) (g : Nat), Src V f 1 g (fed [] p) → Calls Try.prog 24 #[.pointer (some ⟨g, 0, none⟩)] V fun e w' => e = .returned (.tuple #[.string Xva, .int .i64 0]) ∧ Far (fun k => k = g) V w') := fun V f g h => by
    have h9 := auth_any f 1 g _ V h
    rw [va1, va2] at h9
    exact h9.mono fun e w' ⟨he, _, hf⟩ => ⟨he, hf⟩
  obtain ⟨vb1, vb2⟩ := took_fed 24 (by decide) q
  rw [if_pos (by omega)] at vb1 vb2
  obtain ⟨Xvb, hXvb⟩ : ∃ X, X = b64 (q.take 24) := ⟨_, rfl⟩
  rw [← hXvb] at vb1
  have Hvb : Hid (∀ (V : World) (f : Nat → Nat) (g : Nat), Src V f 1 g (fed [] q) → Calls Try.prog 24 #[.pointer (some ⟨g, 0, none⟩)] V fun e w' => e = .returned (.tuple #[.string Xvb, .int .i64 0]) ∧ Far (fun k => k = g) V w') := fun V f g h => by
    have h9 := auth_any f 1 g _ V h
    rw [vb1, vb2] at h9
    exact h9.mono fun e w' ⟨he, _, hf⟩ => ⟨he, hf⟩
  have Hna : Hid (∀ V : World, Below W.heap.size W V → Calls Try.prog 18 #[.slice A0 n0 c0] V fun e w' => ∃ g f, e = .returned (.pointer (some ⟨g, 0, none⟩)) ∧ V.heap.size ≤ g ∧ Src w' f 1 g (fed [] p) ∧ Below V.heap.size V w') := fun V hb =>
    (newSource_any (fun _ => 0) 1 p A0 n0 c0 V hn0 hc0 hp (hC0.below hb)).mono fun e w' ⟨g, he, hg, hS, hbl⟩ => ⟨g, _, he, hg, hS, hbl⟩
  have Hnb : Hid (∀ V : World, Below W.heap.size W V → Calls Try.prog 18 #[.slice A1 n1 c1] V fun e w' => ∃ g f, e = .returned (.pointer (some ⟨g, 0, none⟩)) ∧ V.heap.size ≤ g ∧ Src w' f 1 g (fed [] q) ∧ Below V.heap.size V w') := fun V hb =>
    (newSource_any (fun _ => 0) 1 q A1 n1 c1 V hn1 hc1 hq (hC1.below hb)).mono fun e w' ⟨g, he, hg, hS, hbl⟩ => ⟨g, _, he, hg, hS, hbl⟩
  obtain ⟨S32a, hS32a⟩ : ∃ S, S = txt (p.take 32) := ⟨_, rfl⟩
  obtain ⟨S32b, hS32b⟩ : ∃ S, S = txt (q.take 32) := ⟨_, rfl⟩
  have two32 := same_two p q 32 hp hq
  rw [← hXxa, ← hXxb, ← hS32a, ← hS32b] at two32
  obtain ⟨r32, hr32⟩ : ∃ r, (S32a.toList == S32b.toList) = r := ⟨_, rfl⟩
  rw [hr32] at two32
  have hcv32a : Hid (∀ V : World, Below W.heap.size W V → (convert 31 9 (.slice A0 32 c0)).run Try.prog V = .ok (.string S32a) V) := fun V hb => by
    rw [hS32a]
    exact Kd.C_string (P := Try.prog) (w := V) (A := A0) (c := c0) Try.underlying31 Try.underlying5 Try.underlying9 (show Kd.C (Kd.int .u8) V A0 32 (toI (p.take 32)) from (hC0.below hb).take 32 (by omega))
  have hcv32b : Hid (∀ V : World, Below W.heap.size W V → (convert 31 9 (.slice A1 32 c1)).run Try.prog V = .ok (.string S32b) V) := fun V hb => by
    rw [hS32b]
    exact Kd.C_string (P := Try.prog) (w := V) (A := A1) (c := c1) Try.underlying31 Try.underlying5 Try.underlying9 (show Kd.C (Kd.int .u8) V A1 32 (toI (q.take 32)) from (hC1.below hb).take 32 (by omega))
  obtain ⟨S24a, hS24a⟩ : ∃ S, S = txt (p.take 24) := ⟨_, rfl⟩
  obtain ⟨S24b, hS24b⟩ : ∃ S, S = txt (q.take 24) := ⟨_, rfl⟩
  have two24 := same_two p q 24 hp hq
  rw [← hXva, ← hXvb, ← hS24a, ← hS24b] at two24
  obtain ⟨r24, hr24⟩ : ∃ r, (S24a.toList == S24b.toList) = r := ⟨_, rfl⟩
  rw [hr24] at two24
  have hcv24a : Hid (∀ V : World, Below W.heap.size W V → (convert 31 9 (.slice A0 24 c0)).run Try.prog V = .ok (.string S24a) V) := fun V hb => by
    rw [hS24a]
    exact Kd.C_string (P := Try.prog) (w := V) (A := A0) (c := c0) Try.underlying31 Try.underlying5 Try.underlying9 (show Kd.C (Kd.int .u8) V A0 24 (toI (p.take 24)) from (hC0.below hb).take 24 (by omega))
  have hcv24b : Hid (∀ V : World, Below W.heap.size W V → (convert 31 9 (.slice A1 24 c1)).run Try.prog V = .ok (.string S24b) V) := fun V hb => by
    rw [hS24b]
    exact Kd.C_string (P := Try.prog) (w := V) (A := A1) (c := c1) Try.underlying31 Try.underlying5 Try.underlying9 (show Kd.C (Kd.int .u8) V A1 24 (toI (q.take 24)) from (hC1.below hb).take 24 (by omega))
  have hzxa : Xxa.size = 43 := by rw [hXxa, b64_size, List.length_take, show min 32 p.length = 32 by omega]
  have hzva : Xva.size = 32 := by rw [hXva, b64_size, List.length_take, show min 24 p.length = 24 by omega]
  have i0 : (0 : Int) ≤ (n0 : Int) := by omega
  have n032 : decide ((32 : Int) ≤ (n0 : Int)) = true := decide_eq_true (by omega)
  have n024 : decide ((24 : Int) ≤ (n0 : Int)) = true := decide_eq_true (by omega)
  have n0c : (32 : Int) ≤ (c0 : Int) := by omega
  have n0d : (24 : Int) ≤ (c0 : Int) := by omega
  have n132 : decide ((32 : Int) ≤ (n1 : Int)) = true := decide_eq_true (by omega)
  have n124 : decide ((24 : Int) ≤ (n1 : Int)) = true := decide_eq_true (by omega)
  have n1c : (32 : Int) ≤ (c1 : Int) := by omega
  have n1d : (24 : Int) ≤ (c1 : Int) := by omega
  clear xa1 xa2 xb1 xb2 va1 va2 vb1 vb2 hn0 hn1 hp hq hC0 hC1 hka hkb hXxa hXxb hXva hXvb hS32a hS32b hS24a hS24b
  have hzzxa : ((Xxa.size : Int) == 43) = true := by rw [hzxa]; rfl
  clear hzxa
  have hzzva : ((Xva.size : Int) == 32) = true := by rw [hzva]; rfl
  clear hzva
  go_enter Try.func7, Try.ntmps7
  go_wp2_with (first
    | (go_at_call 18; (with_reducible refine (Hna.out _ (Below.refl _ _)).mono ?_); rintro e w1 ⟨g1, f1, rfl, hg1, S1, hb1⟩
       have hb1' : Below W.heap.size W w1 := hb1)
    | (go_at_call 23; (with_reducible refine (Hxa.out _ _ g1 S1).mono ?_); rintro e w2 ⟨rfl, F2⟩
       have hb2' : Below W.heap.size W w2 := hb1'.trans (F2.below (fun n hn e => by omega) hb1'.size)
       clear S1)
    | (go_at_call 18; (with_reducible refine (Hnb.out _ hb2').mono ?_); rintro e w3 ⟨g3, f3, rfl, hg3, S3, hb3⟩
       have hb3' : Below W.heap.size W w3 := hb2'.trans (hb3.mono hb2'.size))
    | (go_at_call 23; (with_reducible refine (Hxb.out _ _ g3 S3).mono ?_); rintro e w4 ⟨rfl, F4⟩
       have hb4' : Below W.heap.size W w4 := hb3'.trans (F4.below (fun n hn e => by have := hb2'.size; omega) hb3'.size)
       clear S3)
    | (go_at_call 18; (with_reducible refine (Hna.out _ hb4').mono ?_); rintro e w5 ⟨g5, f5, rfl, hg5, S5, hb5⟩
       have hb5' : Below W.heap.size W w5 := hb4'.trans (hb5.mono hb4'.size))
    | (go_at_call 24; (with_reducible refine (Hva.out _ _ g5 S5).mono ?_); rintro e w6 ⟨rfl, F6⟩
       have hb6' : Below W.heap.size W w6 := hb5'.trans (F6.below (fun n hn e => by have := hb4'.size; omega) hb5'.size)
       clear S5)
    | (go_at_call 18; (with_reducible refine (Hnb.out _ hb6').mono ?_); rintro e w7 ⟨g7, f7, rfl, hg7, S7, hb7⟩
       have hb7' : Below W.heap.size W w7 := hb6'.trans (hb7.mono hb6'.size))
    | (go_at_call 24; (with_reducible refine (Hvb.out _ _ g7 S7).mono ?_); rintro e w8 ⟨rfl, F8⟩
       have hb8' : Below W.heap.size W w8 := hb7'.trans (F8.below (fun n hn e => by have := hb6'.size; omega) hb7'.size)
       clear S7)
    | (go_at_call 11; (with_reducible refine (num_q _ _).mono ?_); rintro e w5 ⟨rfl, rfl⟩)
    | (go_at_call 12; (with_reducible refine (live_any _).mono ?_); rintro e w9 ⟨rfl, hb9⟩
       have hb9' := hb8'.trans (hb9.mono hb8'.size)))
  have cva32 := fun n : Nat => hcv32a.out (w9.drewN n) (below_drewN hb9' n)
  have cvb32 := fun n : Nat => hcv32b.out (w9.drewN n) (below_drewN hb9' n)
  go_quiet ((go_at_call 11; first | exact quiet_left (num_q _ _) | exact quiet_add_left (num_q _ _)))
  go_wp2
  have cva24 := fun n : Nat => hcv24a.out (w9.drewN n) (below_drewN hb9' n)
  have cvb24 := fun n : Nat => hcv24b.out (w9.drewN n) (below_drewN hb9' n)
  go_quiet ((go_at_call 11; first | exact quiet_left (num_q _ _) | exact quiet_add_left (num_q _ _)))
  go_wp2
  go_ret
  exact ⟨rfl, below_drewN hb9' _⟩
end Go.Proofs.Ytaeipffenlkjpaa.Sha
