/-
  wicketlaw09.draw: one call on both sources: what the call does, walked.
-/
import Derived.Test.YtaeipffenlkjpaaCLive
namespace Go.Proofs.Ytaeipffenlkjpaa.Sha
open Go.RowKit Go.Proofs.YtaeipffenlkjpaaW.PrintWords Go.Proofs.Ytaeipffenlkjpaa.PAll Go.Proofs.Ytaeipffenlkjpaa.Plain Go.Proofs.Ytaeipffenlkjpaa.Cod
set_option linter.unusedVariables false
set_option linter.unusedSimpArgs false
/-- Both sources, of the same bytes. -/
def Both (w : World) (f : Nat → Nat) (i j g h : Nat) (L : List Nat) : Prop := Src w f i g L ∧ RSrc w f j h L
/-- Behind one call on both. -/
def Drew (w : World) (f : Nat → Nat) (i j g h : Nat) (M : List Nat) (e : Ending) (w' : World) : Prop := e = .returned (.bool true) ∧ (∃ f', Ext w f f' ∧ Both w' f' i j g h M) ∧ Far (fun k => f k = i ∨ f k = j) w w'
/-- What is left behind an act. -/
def nextL (K : Int) (P L : List Nat) : List Nat := if K = 1 then L.tail else if K = 3 then fed L P else if K = 4 then (took 32 L).2.2 else if K = 5 then (took 24 L).2.2 else if K = 6 then (user [] L).2.2 else L
theorem Src.mark {w : World} {f : Nat → Nat} {i g : Nat} {L : List Nat} (h : Src w f i g L) : f g = i := h.1
set_option maxRecDepth 100000 in
set_option maxHeartbeats 2000000 in
theorem draw_byte (f : Nat → Nat) (i j g h : Nat) (L : List Nat) (v : Value) (w : World) (hij : i ≠ j) (hB : Both w f i j g h L) :
    Calls Try.prog 27 #[.pointer (some ⟨g, 0, none⟩), .pointer (some ⟨h, 0, none⟩), .agg #[.int .i64 1, v]] w (Drew w f i j g h L.tail) := by
  obtain ⟨S, R⟩ := hB
  have hgi := S.mark
  have F0 := Far.alloc (fun _ => False) w (.cells #[.int .i64 1, v] 46)
  have S0 := S.far (Ext.refl _ _) F0 (fun _ _ _ h => h)
  have R0 := R.far (Ext.refl _ _) F0 (fun _ _ _ h => h)
  cases L with
  | nil =>
    have h1 := byte_nil _ (some ⟨g, 0, none⟩) (.inr ⟨f, i, g, S0, rfl⟩)
    have h2 := rbyte_nil f j h _ R0
    have HS := Lib.hid S0; have HR := Lib.hid R0; have H1 := Lib.hid h1; have H2 := Lib.hid h2; have HF := Lib.hid F0
    clear S R S0 R0 h1 h2 F0 hgi
    go_enter Try.func27, Try.ntmps27
    go_wp2_with (first
      | (go_at_call 29; (with_reducible refine H1.out.mono ?_); rintro e w1 ⟨rfl, rfl⟩)
      | (go_at_call 37; (with_reducible refine H2.out.mono ?_); rintro e w1 ⟨rfl, rfl⟩)
      | (go_at_call 11; (with_reducible refine (num_q _ _).mono ?_); rintro e w5 ⟨rfl, rfl⟩))
    go_ret
    exact ⟨rfl, ⟨f, Ext.refl _ _, HS.out, HR.out⟩, HF.out.mono (fun _ _ h => h.elim)⟩
  | cons x M =>
    have h1 := byte_cons f i g x M _ S0
    have h2 : Hid (∀ V : World, RSrc V f j h (x :: M) → Calls Try.prog 37 #[.pointer (some ⟨h, 0, none⟩)] V fun e w' => e = .returned (.tuple #[.int .u8 (x : Int), .int .i64 0]) ∧ RSrc w' (col f V.heap.size j) j h M ∧ Far (fun k => k = h) V w') := fun V hV => rbyte_cons f j h x M V hV
    have hhj : f h = j := R.1
    have H1 := Lib.hid h1; have HR := Lib.hid R0; have HF := Lib.hid F0; have HG := Lib.hid hgi; have HJ := Lib.hid hhj
    clear S R S0 R0 h1 F0 hgi hhj
    go_enter Try.func27, Try.ntmps27
    go_wp2_with (first
      | (go_at_call 29; (with_reducible refine H1.out.mono ?_); rintro e w1 ⟨rfl, S1, F1⟩
         have R1 : RSrc w1 f j h (x :: M) := HR.out.far (Ext.refl _ _) F1 (fun k _ hk e => hij (by rw [← HG.out, ← e, hk]))
         have HS1 := Lib.hid S1; have HR1 := Lib.hid R1; have HF1 := Lib.hid F1
         clear S1 R1 F1)
      | (go_at_call 37; (with_reducible refine (h2.out _ HR1.out).mono ?_); rintro e w2 ⟨rfl, R2, F2⟩
         have S2 : Src w2 (col f w1.heap.size j) i g M := HS1.out.far (col_ext _ _ _) F2 (fun k _ hk e => hij (by rw [← hk, e, HJ.out]))
         have HS2 := Lib.hid S2; have HR2 := Lib.hid R2; have HF2 := Lib.hid F2
         clear S2 R2 F2)
      | (go_at_call 11; (with_reducible refine (num_q _ _).mono ?_); rintro e w5 ⟨rfl, rfl⟩))
    go_ret
    have F01 := (HF.out.mono (S' := fun k => f k = i ∨ f k = j) (fun _ _ h => h.elim)).trans HF1.out (fun n _ e => .inl (by rw [e]; exact HG.out))
    exact ⟨rfl, ⟨_, (Ext.refl w f).trans (col_ext w1 f j) (F01.size), HS2.out, HR2.out⟩, F01.trans HF2.out (fun n _ e => .inr (by rw [e]; exact HJ.out))⟩
set_option maxRecDepth 100000 in
set_option maxHeartbeats 2000000 in
theorem draw_left (f : Nat → Nat) (i j g h : Nat) (L : List Nat) (v : Value) (w : World) (hij : i ≠ j) (hB : Both w f i j g h L) :
    Calls Try.prog 27 #[.pointer (some ⟨g, 0, none⟩), .pointer (some ⟨h, 0, none⟩), .agg #[.int .i64 2, v]] w (Drew w f i j g h L) := by
  obtain ⟨S, R⟩ := hB
  have F0 := Far.alloc (fun _ => False) w (.cells #[.int .i64 2, v] 46)
  have S0 := S.far (Ext.refl _ _) F0 (fun _ _ _ h => h)
  have R0 := R.far (Ext.refl _ _) F0 (fun _ _ _ h => h)
  obtain ⟨n, hn⟩ : ∃ n, n = L.length := ⟨_, rfl⟩
  have h1 : ∀ V : World, Src V f i g L → Calls Try.prog 22 #[.pointer (some ⟨g, 0, none⟩)] V fun e w' => e = .returned (.int .i64 (n : Int)) ∧ V = w' := fun V hV => by rw [hn]; exact left_any f i g L V hV
  have hR := R0
  obtain ⟨s1, s2, s3, vr, hBr, hO, hfr⟩ := hR
  obtain ⟨Av, cv, hve, hcv, hCv⟩ := hO.arg
  have g0 : (w.alloc (.cells #[.int .i64 2, v] 46)).cell? ⟨h, 0, none⟩ = some (.slice Av n cv) := by rw [hBr.cell 0, hve, hn]; rfl
  have HS := Lib.hid S0; have HR := Lib.hid R0; have HF := Lib.hid F0; have H1 := Lib.hid h1
  clear S R S0 R0 h1 F0 s1 s2 s3 hBr hO hfr hve hcv hCv hn
  go_enter Try.func27, Try.ntmps27
  go_wp2
  go_quiet ((go_at_call 22; exact quiet_left (H1.out _ HS.out)))
  go_wp2
  go_ret
  exact ⟨rfl, ⟨f, Ext.refl _ _, HS.out, HR.out⟩, HF.out.mono (fun _ _ h => h.elim)⟩
/-- Any other kind: nothing. -/
theorem draw_none (f : Nat → Nat) (i j g h : Nat) (L : List Nat) (K : Int) (v : Value) (w : World) (hK : ∀ k : Int, 1 ≤ k → k ≤ 6 → (K == k) = false) (hB : Both w f i j g h L) :
    Calls Try.prog 27 #[.pointer (some ⟨g, 0, none⟩), .pointer (some ⟨h, 0, none⟩), .agg #[.int .i64 K, v]] w (Drew w f i j g h L) := by
  obtain ⟨S, R⟩ := hB
  have F0 := Far.alloc (fun _ => False) w (.cells #[.int .i64 K, v] 46)
  have S0 := S.far (Ext.refl _ _) F0 (fun _ _ _ h => h)
  have R0 := R.far (Ext.refl _ _) F0 (fun _ _ _ h => h)
  have k1 := hK 1 (by decide) (by decide); have k2 := hK 2 (by decide) (by decide); have k3 := hK 3 (by decide) (by decide); have k4 := hK 4 (by decide) (by decide); have k5 := hK 5 (by decide) (by decide); have k6 := hK 6 (by decide) (by decide)
  have HS := Lib.hid S0; have HR := Lib.hid R0; have HF := Lib.hid F0
  clear S R S0 R0 F0 hK
  go_enter Try.func27, Try.ntmps27
  go_wp2
  go_ret
  exact ⟨rfl, ⟨f, Ext.refl _ _, HS.out, HR.out⟩, HF.out.mono (fun _ _ h => h.elim)⟩
set_option maxRecDepth 100000 in
set_option maxHeartbeats 2000000 in
theorem draw_device (f : Nat → Nat) (i j g h : Nat) (L : List Nat) (v : Value) (w : World) (hij : i ≠ j) (hB : Both w f i j g h L) :
    Calls Try.prog 27 #[.pointer (some ⟨g, 0, none⟩), .pointer (some ⟨h, 0, none⟩), .agg #[.int .i64 4, v]] w (Drew w f i j g h (took 32 L).2.2) := by
  obtain ⟨S, R⟩ := hB
  have hgi := S.mark
  have hhj : f h = j := R.1
  have F0 := Far.alloc (fun _ => False) w (.cells #[.int .i64 4, v] 46)
  have S0 := S.far (Ext.refl _ _) F0 (fun _ _ _ h => h)
  have R0 := R.far (Ext.refl _ _) F0 (fun _ _ _ h => h)
  obtain ⟨X, hX⟩ : ∃ X, X = (took 32 L).1 := ⟨_, rfl⟩
  obtain ⟨m, hm⟩ : ∃ m, m = (took 32 L).2.1 := ⟨_, rfl⟩
  obtain ⟨M, hM⟩ : ∃ M, M = (took 32 L).2.2 := ⟨_, rfl⟩
  have h1 : ∀ V : World, Src V f i g L → Calls Try.prog 23 #[.pointer (some ⟨g, 0, none⟩)] V fun e w' => e = .returned (.tuple #[.string X, .int .i64 (m : Int)]) ∧ Src w' (col f V.heap.size (i + 1)) i g M ∧ Far (fun k => k = g) V w' := fun V hV => by rw [hX, hm, hM]; exact device_any f i g L V hV
  have h2 : ∀ (V : World) (f' : Nat → Nat), RSrc V f' j h L → Calls Try.prog 38 #[.pointer (some ⟨h, 0, none⟩)] V fun e w' => ∃ f'', e = .returned (.tuple #[.string X, .int .i64 (m : Int)]) ∧ Ext V f' f'' ∧ RSrc w' f'' j h M ∧ Far (fun k => k = h) V w' := fun V f' hV => by rw [hX, hm, hM]; exact rdevice_any f' j h L V hV
  have HM := Lib.hid hM; have H1 := Lib.hid h1; have H2 := Lib.hid h2; have HS := Lib.hid S0; have HR := Lib.hid R0; have HF := Lib.hid F0; have HG := Lib.hid hgi; have HJ := Lib.hid hhj
  have hlt := R.lt
  clear S R S0 R0 h1 h2 F0 hgi hhj hX hm hM
  go_enter Try.func27, Try.ntmps27
  go_wp2_with (first
    | (go_at_call 23; (with_reducible refine (H1.out _ HS.out).mono ?_); rintro e w1 ⟨rfl, S1, F1⟩
       have R1 := HR.out.far (f' := col f (w.alloc (.cells #[.int .i64 4, v] 46)).heap.size (i + 1)) (col_ext _ _ _) F1 (fun k _ hk e => hij (by rw [← HG.out, ← e, hk]))
       have HS1 := Lib.hid S1; have HR1 := Lib.hid R1; have HF1 := Lib.hid F1
       clear S1 R1 F1)
    | (go_at_call 38; (with_reducible refine (H2.out _ _ HR1.out).mono ?_); rintro e w2 ⟨f2, rfl, he2, R2, F2⟩
       have S2 : Src w2 f2 i g M := HS1.out.far he2 F2 (fun k _ hk e => hij (by rw [← hk, e]; exact HR1.out.1))
       have HS2 := Lib.hid S2; have HR2 := Lib.hid R2; have HF2 := Lib.hid F2; have HE2 := Lib.hid he2
       clear S2 R2 F2 he2)
    | (go_at_call 11; (with_reducible refine (num_q _ _).mono ?_); rintro e w5 ⟨rfl, rfl⟩))
  go_ret
  have F01 := (HF.out.mono (S' := fun k => f k = i ∨ f k = j) (fun _ _ h => h.elim)).trans HF1.out (fun n _ e => .inl (by rw [e]; exact HG.out))
  refine ⟨rfl, ⟨f2, ?_, by rw [← HM.out]; exact ⟨HS2.out, HR2.out⟩⟩, F01.trans HF2.out (fun n _ e => .inr (by rw [e]; exact HJ.out))⟩
  have e1 : Ext w f (col f (w.alloc (.cells #[.int .i64 4, v] 46)).heap.size (i + 1)) := (Ext.refl w f).trans (col_ext _ f (i + 1)) HF.out.size
  exact e1.trans HE2.out F01.size
set_option maxRecDepth 100000 in
set_option maxHeartbeats 2000000 in
theorem draw_auth (f : Nat → Nat) (i j g h : Nat) (L : List Nat) (v : Value) (w : World) (hij : i ≠ j) (hB : Both w f i j g h L) :
    Calls Try.prog 27 #[.pointer (some ⟨g, 0, none⟩), .pointer (some ⟨h, 0, none⟩), .agg #[.int .i64 5, v]] w (Drew w f i j g h (took 24 L).2.2) := by
  obtain ⟨S, R⟩ := hB
  have hgi := S.mark
  have hhj : f h = j := R.1
  have F0 := Far.alloc (fun _ => False) w (.cells #[.int .i64 5, v] 46)
  have S0 := S.far (Ext.refl _ _) F0 (fun _ _ _ h => h)
  have R0 := R.far (Ext.refl _ _) F0 (fun _ _ _ h => h)
  obtain ⟨X, hX⟩ : ∃ X, X = (took 24 L).1 := ⟨_, rfl⟩
  obtain ⟨m, hm⟩ : ∃ m, m = (took 24 L).2.1 := ⟨_, rfl⟩
  obtain ⟨M, hM⟩ : ∃ M, M = (took 24 L).2.2 := ⟨_, rfl⟩
  have h1 : ∀ V : World, Src V f i g L → Calls Try.prog 24 #[.pointer (some ⟨g, 0, none⟩)] V fun e w' => e = .returned (.tuple #[.string X, .int .i64 (m : Int)]) ∧ Src w' (col f V.heap.size (i + 1)) i g M ∧ Far (fun k => k = g) V w' := fun V hV => by rw [hX, hm, hM]; exact auth_any f i g L V hV
  have h2 : ∀ (V : World) (f' : Nat → Nat), RSrc V f' j h L → Calls Try.prog 39 #[.pointer (some ⟨h, 0, none⟩)] V fun e w' => ∃ f'', e = .returned (.tuple #[.string X, .int .i64 (m : Int)]) ∧ Ext V f' f'' ∧ RSrc w' f'' j h M ∧ Far (fun k => k = h) V w' := fun V f' hV => by rw [hX, hm, hM]; exact rauth_any f' j h L V hV
  have HM := Lib.hid hM; have H1 := Lib.hid h1; have H2 := Lib.hid h2; have HS := Lib.hid S0; have HR := Lib.hid R0; have HF := Lib.hid F0; have HG := Lib.hid hgi; have HJ := Lib.hid hhj
  have hlt := R.lt
  clear S R S0 R0 h1 h2 F0 hgi hhj hX hm hM
  go_enter Try.func27, Try.ntmps27
  go_wp2_with (first
    | (go_at_call 24; (with_reducible refine (H1.out _ HS.out).mono ?_); rintro e w1 ⟨rfl, S1, F1⟩
       have R1 := HR.out.far (f' := col f (w.alloc (.cells #[.int .i64 5, v] 46)).heap.size (i + 1)) (col_ext _ _ _) F1 (fun k _ hk e => hij (by rw [← HG.out, ← e, hk]))
       have HS1 := Lib.hid S1; have HR1 := Lib.hid R1; have HF1 := Lib.hid F1
       clear S1 R1 F1)
    | (go_at_call 39; (with_reducible refine (H2.out _ _ HR1.out).mono ?_); rintro e w2 ⟨f2, rfl, he2, R2, F2⟩
       have S2 : Src w2 f2 i g M := HS1.out.far he2 F2 (fun k _ hk e => hij (by rw [← hk, e]; exact HR1.out.1))
       have HS2 := Lib.hid S2; have HR2 := Lib.hid R2; have HF2 := Lib.hid F2; have HE2 := Lib.hid he2
       clear S2 R2 F2 he2)
    | (go_at_call 11; (with_reducible refine (num_q _ _).mono ?_); rintro e w5 ⟨rfl, rfl⟩))
  go_ret
  have F01 := (HF.out.mono (S' := fun k => f k = i ∨ f k = j) (fun _ _ h => h.elim)).trans HF1.out (fun n _ e => .inl (by rw [e]; exact HG.out))
  refine ⟨rfl, ⟨f2, ?_, by rw [← HM.out]; exact ⟨HS2.out, HR2.out⟩⟩, F01.trans HF2.out (fun n _ e => .inr (by rw [e]; exact HJ.out))⟩
  have e1 : Ext w f (col f (w.alloc (.cells #[.int .i64 5, v] 46)).heap.size (i + 1)) := (Ext.refl w f).trans (col_ext _ f (i + 1)) HF.out.size
  exact e1.trans HE2.out F01.size
set_option maxRecDepth 100000 in
set_option maxHeartbeats 2000000 in
theorem draw_user (f : Nat → Nat) (i j g h : Nat) (L : List Nat) (v : Value) (w : World) (hij : i ≠ j) (hB : Both w f i j g h L) :
    Calls Try.prog 27 #[.pointer (some ⟨g, 0, none⟩), .pointer (some ⟨h, 0, none⟩), .agg #[.int .i64 6, v]] w (Drew w f i j g h (user [] L).2.2) := by
  obtain ⟨S, R⟩ := hB
  have hgi := S.mark
  have hhj : f h = j := R.1
  have F0 := Far.alloc (fun _ => False) w (.cells #[.int .i64 6, v] 46)
  have S0 := S.far (Ext.refl _ _) F0 (fun _ _ _ h => h)
  have R0 := R.far (Ext.refl _ _) F0 (fun _ _ _ h => h)
  obtain ⟨X, hX⟩ : ∃ X, X = txt (user [] L).1 := ⟨_, rfl⟩
  obtain ⟨m, hm⟩ : ∃ m, m = (user [] L).2.1 := ⟨_, rfl⟩
  obtain ⟨M, hM⟩ : ∃ M, M = (user [] L).2.2 := ⟨_, rfl⟩
  have h1 : ∀ V : World, Src V f i g L → Calls Try.prog 17 #[.pointer (some ⟨g, 0, none⟩)] V fun e w' => e = .returned (.tuple #[.string X, .int .i64 (m : Int)]) ∧ Src w' (col f V.heap.size (i + 1)) i g M ∧ Far (fun k => k = g) V w' := fun V hV => by rw [hX, hm, hM]; exact user_any f i g L V hV
  have h2 : ∀ (V : World) (f' : Nat → Nat), RSrc V f' j h L → Calls Try.prog 40 #[.pointer (some ⟨h, 0, none⟩)] V fun e w' => ∃ f'', e = .returned (.tuple #[.string X, .int .i64 (m : Int)]) ∧ Ext V f' f'' ∧ RSrc w' f'' j h M ∧ Far (fun k => k = h) V w' := fun V f' hV => by rw [hX, hm, hM]; exact ruser_any f' j h L V hV
  have HM := Lib.hid hM; have H1 := Lib.hid h1; have H2 := Lib.hid h2; have HS := Lib.hid S0; have HR := Lib.hid R0; have HF := Lib.hid F0; have HG := Lib.hid hgi; have HJ := Lib.hid hhj
  have hlt := R.lt
  clear S R S0 R0 h1 h2 F0 hgi hhj hX hm hM
  go_enter Try.func27, Try.ntmps27
  go_wp2_with (first
    | (go_at_call 17; (with_reducible refine (H1.out _ HS.out).mono ?_); rintro e w1 ⟨rfl, S1, F1⟩
       have R1 := HR.out.far (f' := col f (w.alloc (.cells #[.int .i64 6, v] 46)).heap.size (i + 1)) (col_ext _ _ _) F1 (fun k _ hk e => hij (by rw [← HG.out, ← e, hk]))
       have HS1 := Lib.hid S1; have HR1 := Lib.hid R1; have HF1 := Lib.hid F1
       clear S1 R1 F1)
    | (go_at_call 40; (with_reducible refine (H2.out _ _ HR1.out).mono ?_); rintro e w2 ⟨f2, rfl, he2, R2, F2⟩
       have S2 : Src w2 f2 i g M := HS1.out.far he2 F2 (fun k _ hk e => hij (by rw [← hk, e]; exact HR1.out.1))
       have HS2 := Lib.hid S2; have HR2 := Lib.hid R2; have HF2 := Lib.hid F2; have HE2 := Lib.hid he2
       clear S2 R2 F2 he2)
    | (go_at_call 11; (with_reducible refine (num_q _ _).mono ?_); rintro e w5 ⟨rfl, rfl⟩))
  go_ret
  have F01 := (HF.out.mono (S' := fun k => f k = i ∨ f k = j) (fun _ _ h => h.elim)).trans HF1.out (fun n _ e => .inl (by rw [e]; exact HG.out))
  refine ⟨rfl, ⟨f2, ?_, by rw [← HM.out]; exact ⟨HS2.out, HR2.out⟩⟩, F01.trans HF2.out (fun n _ e => .inr (by rw [e]; exact HJ.out))⟩
  have e1 : Ext w f (col f (w.alloc (.cells #[.int .i64 6, v] 46)).heap.size (i + 1)) := (Ext.refl w f).trans (col_ext _ f (i + 1)) HF.out.size
  exact e1.trans HE2.out F01.size
end Go.Proofs.Ytaeipffenlkjpaa.Sha
