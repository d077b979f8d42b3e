/-
  CodesPieces: what the call does, walked; as the row hands it on.
-/
import Derived.Test.YtaeipffenlkjpaaCDrawsLaw
namespace Go.Proofs.Ytaeipffenlkjpaa.Sha
open Go.RowKit Go.Proofs.YtaeipffenlkjpaaW.PrintWords Go.Proofs.Ytaeipffenlkjpaa.PAll Go.Proofs.Ytaeipffenlkjpaa.Plain Go.Proofs.Ytaeipffenlkjpaa.Cod
set_option linter.unusedVariables false
set_option linter.unusedSimpArgs false
theorem Src.up {w w' : World} {f : Nat → Nat} {i g : Nat} {L : List Nat} (h : Src w f i g L) (hb : Below w.heap.size w w') (j : Nat) : Src w' (col f w.heap.size j) i g L :=
  h.far (col_ext _ _ _) (Far.of_below (S := fun _ => False) hb) (fun _ _ _ h => h)
theorem RSrc.up {w w' : World} {f : Nat → Nat} {i g : Nat} {L : List Nat} (h : RSrc w f i g L) (hb : Below w.heap.size w w') (j : Nat) : RSrc w' (col f w.heap.size j) i g L :=
  h.far (col_ext _ _ _) (Far.of_below (S := fun _ => False) hb) (fun _ _ _ h => h)
theorem Src.by_ {w w' : World} {f : Nat → Nat} {i j g k : Nat} {L : List Nat} (h : Src w f i g L) (F : Far (fun q => q = k) w w') (hk : f k = j) (hij : i ≠ j) (m : Nat) : Src w' (col f w.heap.size m) i g L :=
  h.far (col_ext _ _ _) F (fun q _ hq e => hij (by rw [← hq, e, hk]))
theorem Both.far {w w' : World} {f f' : Nat → Nat} {i j g h : Nat} {L : List Nat} {S : Nat → Prop} (hB : Both w f i j g h L) (he : Ext w f f') (F : Far S w w') (hS : ∀ k, (f k = i ∨ f k = j) → ¬ S k) : Both w' f' i j g h L :=
  ⟨hB.1.far he F (fun k _ hk => hS k (.inl hk)), hB.2.far he F (fun k _ hk => hS k (.inr hk))⟩
/-- The slice that a source of the reference holds. -/
theorem RSrc.row {w : World} {f : Nat → Nat} {i g : Nat} {L : List Nat} (h : RSrc w f i g L) : ∃ A c, w.cell? ⟨g, 0, none⟩ = some (.slice A L.length c) ∧ L.length ≤ c ∧ C8 w A L.length L := by
  obtain ⟨_, _, _, v, hB, hO, _⟩ := h
  obtain ⟨A, c, e, hc, hC⟩ := hO.arg
  exact ⟨A, c, by rw [hB.cell 0, e]; rfl, hc, hC⟩
set_option maxRecDepth 100000 in
set_option maxHeartbeats 8000000 in
theorem pieces_law (p q : List Nat) (acts : List S46) (A0 : Option Addr) (n0 c0 : Nat) (A1 : Option Addr) (n1 c1 : Nat) (A2 : Option Addr) (n2 c2 : Nat) (W : World) (hn0 : n0 = p.length) (hn1 : n1 = q.length) (hn2 : n2 = acts.length) (hl0 : n0 ≤ 140737488355328) (hl1 : n1 ≤ 140737488355328) (hl2 : n2 ≤ 140737488355328) (hp : All 256 p) (hq : All 256 q) (hc0 : n0 ≤ c0) (hc1 : n1 ≤ c1) (hc2 : n2 ≤ c2)
    (hC0 : C8 W A0 p.length p) (hC1 : C8 W A1 q.length q) (hC2 : Kd.C k46 W A2 n2 acts) (hok : ∀ y ∈ acts, ∀ b ∈ y.f1, (Lit.int .u8 b).wf = true) :
    Calls Try.prog 9 #[.slice A0 n0 c0, .slice A1 n1 c1, .slice A2 n2 c2] W fun e w' => e = .returned (.bool true) ∧ Below W.heap.size W w' := by
  have i0 : (0 : Int) ≤ (n0 : Int) := by omega
  have i1 : (0 : Int) ≤ (n1 : Int) := by omega
  have i3 : (n0 : Int) ≤ 140737488355328 := by omega
  have i4 : (n1 : Int) ≤ 140737488355328 := by omega
  by_cases hsm : n0 + n1 ≤ 4096
  · have d0 : decide ((4096 : Int) < (n0 : Int) + (n1 : Int)) = false := decide_eq_false (by omega)
    obtain ⟨AB, hAB⟩ : ∃ AB, AB = p ++ q := ⟨_, rfl⟩
    have hABl : n0 + n1 = AB.length := by rw [hAB, List.length_append, hn0, hn1]
    have hABa : All 256 AB := by rw [hAB]; exact hp.app hq
    have hfp : fed [] p = p := fed_one p (by omega)
    have hfq : fed p q = AB := by
      have h := fed_two p q (by omega)
      rwa [hfp, ← hAB] at h
    have hfAB : fed [] AB = AB := fed_one AB (by omega)
    have hNS0 : Calls Try.prog 18 #[.slice A0 n0 c0] W fun e w' => ∃ g, e = .returned (.pointer (some ⟨g, 0, none⟩)) ∧ W.heap.size ≤ g ∧ Src w' (col (fun _ => 0) W.heap.size 1) 1 g p ∧ Below W.heap.size W w' := by
      have h := newSource_any (fun _ => 0) 1 p A0 n0 c0 W hn0 hc0 hp hC0
      rwa [hfp] at h
    have hF1 : ∀ (V : World) (f : Nat → Nat) (i g : Nat), Src V f i g p → Below W.heap.size W V → Calls Try.prog 28 #[.pointer (some ⟨g, 0, none⟩), .slice A1 n1 c1] V fun e w' => e = .returned (.tuple #[]) ∧ Src w' (col f V.heap.size i) i g AB ∧ Far (fun k => k = g) V w' := fun V f i g hS hb => by
      have h := feed_any f i g p q A1 n1 c1 V hS hn1 hc1 hq (hC1.below hb)
      rwa [hfq] at h
    have hF5 : ∀ (V : World) (f : Nat → Nat) (i g : Nat), Src V f i g [] → Below W.heap.size W V → Calls Try.prog 28 #[.pointer (some ⟨g, 0, none⟩), .slice A0 n0 c0] V fun e w' => e = .returned (.tuple #[]) ∧ Src w' (col f V.heap.size i) i g p ∧ Far (fun k => k = g) V w' := fun V f i g hS hb => by
      have h := feed_any f i g [] p A0 n0 c0 V hS hn0 hc0 hp (hC0.below hb)
      rwa [hfp] at h
    have hNS3 : ∀ (V : World) (f : Nat → Nat) (i : Nat) (A : Option Addr) (c : Nat), C8 V A AB.length AB → n0 + n1 ≤ c → Calls Try.prog 18 #[.slice A (n0 + n1) c] V fun e w' => ∃ g, e = .returned (.pointer (some ⟨g, 0, none⟩)) ∧ V.heap.size ≤ g ∧ Src w' (col f V.heap.size i) i g AB ∧ Below V.heap.size V w' := fun V f i A c hC hc => by
      have h := newSource_any f i AB A (n0 + n1) c V hABl hc hABa hC
      rwa [hfAB] at h
    have hNS5 : ∀ (V : World) (f : Nat → Nat) (i : Nat), Calls Try.prog 18 #[.slice none 0 0] V fun e w' => ∃ g, e = .returned (.pointer (some ⟨g, 0, none⟩)) ∧ V.heap.size ≤ g ∧ Src w' (col f V.heap.size i) i g [] ∧ Below V.heap.size V w' := fun V f i => newSource_any f i [] none 0 0 V rfl (Nat.le_refl _) All.nil (C8.nil V none)
    have hRN : ∀ (V : World) (f : Nat → Nat) (i : Nat) (A : Option Addr) (c : Nat), C8 V A AB.length AB → n0 + n1 ≤ c → Calls Try.prog 26 #[.slice A (n0 + n1) c] V fun e w' => e = .returned (.pointer (some ⟨V.heap.size, 0, none⟩)) ∧ RSrc w' (col f V.heap.size i) i V.heap.size AB ∧ Below V.heap.size V w' := fun V f i A c hC hc => by
      have h := rnew_any f i AB A (n0 + n1) c V hABl hc (by omega) hABa hC
      rwa [hfAB] at h
    have HNS0 := Lib.hid hNS0; have HF1 := Lib.hid hF1; have HF5 := Lib.hid hF5; have HNS3 := Lib.hid hNS3; have HNS5 := Lib.hid hNS5; have HRN := Lib.hid hRN
    have HN0 := Lib.hid hn0; have HN1 := Lib.hid hn1; have HN2 := Lib.hid hn2; have HC0 := Lib.hid hC0; have HC1 := Lib.hid hC1; have HC2 := Lib.hid hC2; have HOK := Lib.hid hok; have HABL := Lib.hid hABl; have HABE := Lib.hid hAB
    have hlen2 : (([] ++ p) ++ q).length = n0 + n1 := by rw [List.nil_append, List.length_append, hn0, hn1]
    have hcat : ([] ++ p) ++ q = AB := by rw [List.nil_append, hAB]
    have HL2 := Lib.hid hlen2; have HCAT := Lib.hid hcat
    clear hNS0 hF1 hF5 hNS3 hNS5 hRN hn0 hn1 hn2 hC0 hC1 hC2 hok hABl hABa hfp hfq hfAB hAB hp hq hlen2 hcat
    go_enter Try.func9, Try.ntmps9
    go_wp2_with (first
      | (go_at_call 18; (with_reducible refine HNS0.out.mono ?_); rintro e w1 ⟨g1, rfl, hg1, S1, hb1⟩)
      | (go_at_call 28; (with_reducible refine (HF1.out w1 _ 1 g1 S1 hb1).mono ?_); rintro e w2 ⟨rfl, S2, F2⟩
         have hb2 : Below W.heap.size W w2 := hb1.trans (F2.below (fun n hn e => by omega) hb1.size)
         have f2lo : ∀ k, k < W.heap.size → col (col (fun _ => 0) W.heap.size 1) w1.heap.size 1 k = 0 := fun k hk => by rw [col_ext w1 _ 1 k (by have := hb1.size; omega), col_ext W _ 1 k hk]
         obtain ⟨f2, hf2⟩ : ∃ f2, f2 = col (col (fun _ => 0) W.heap.size 1) w1.heap.size 1 := ⟨_, rfl⟩
         rw [← hf2] at S2 f2lo
         have HS2 := Lib.hid S2; have HLO2 := Lib.hid f2lo
         have hbb2 := hb1.size
         have h2s := hb2.size
         clear S1 S2 F2 f2lo hf2)
      | (at_builtin; (refine wpl_append rfl _ _ _ rfl info_byte Try.underlying31 w2.heap.size (.slice (some ⟨w2.heap.size, 0, none⟩) 0 0) [] rfl (Own.nil_alloc w2 _ _ rfl (Nat.le_refl _)) A0 c0 n0 p rfl HN0.out ((HC0.out.below hb2).below ((Below.refl _ _).alloc (Nat.le_refl _) _)) (by rw [← HN0.out]; simp; omega) (by simp) ?_); intro v3 w3 O3 G3 _
         have hb3 : Below w2.heap.size w2 w3 := Below.grown ((Below.refl _ _).alloc (Nat.le_refl _) _) G3 (by simp) (fun k e => by have e' : some w2.heap.size = some k := e; injection e' with e'; omega)
         clear G3)
      | (at_builtin; (refine wpl_append rfl _ _ _ rfl info_byte Try.underlying31 w2.heap.size _ ([] ++ p) rfl O3 A1 c1 n1 q rfl HN1.out ((HC1.out.below hb2).below hb3) (by rw [List.nil_append, ← HN0.out, ← HN1.out]; omega) hb3.size ?_); intro v4 w4 O4 G4 _
         have hb4 : Below w2.heap.size w2 w4 := Below.grown hb3 G4 hb3.size (fun k e => own_base O3 k e)
         obtain ⟨A4, c4, e4, hc4, hC4⟩ := O4.arg
         rw [HL2.out] at e4 hc4
         rw [HCAT.out] at hC4
         subst e4
         have hb4' : Below W.heap.size W w4 := hb2.trans (hb4.mono h2s)
         have h4s := hb4.size
         have HC4 := Lib.hid hC4; have HS4 := Lib.hid (HS2.out.below hb4)
         clear O3 O4 G4 hC4 hb3 hb4)
      | (go_at_call 18; (with_reducible refine (HNS3.out w4 f2 3 A4 c4 HC4.out hc4).mono ?_); rintro e w5 ⟨g3, rfl, hg3, S5, hb5⟩
         have h5s := hb5.size
         have hb5' : Below W.heap.size W w5 := hb4'.trans (hb5.mono (by omega))
         have HT5 := Lib.hid S5; have HS5 := Lib.hid (HS4.out.up hb5 3)
         clear S5 hb5)
      | (go_at_call 18; (with_reducible refine (HNS5.out w5 (col f2 w4.heap.size 3) 5).mono ?_); rintro e w6 ⟨g5, rfl, hg5, S6, hb6⟩
         have h6s := hb6.size
         have hb6' : Below W.heap.size W w6 := hb5'.trans (hb6.mono (by omega))
         have HU6 := Lib.hid S6; have HS6 := Lib.hid (HS5.out.up hb6 5); have HT6 := Lib.hid (HT5.out.up hb6 5)
         clear S6 hb6)
      | (go_at_call 28; (with_reducible refine (HF5.out w6 _ 5 g5 HU6.out hb6').mono ?_); rintro e w7 ⟨rfl, S7, F7⟩
         have h7s := F7.size
         have hb7' : Below W.heap.size W w7 := hb6'.trans (F7.below (fun n hn e => by omega) hb6'.size)
         have HS7 := Lib.hid (HS6.out.by_ F7 HU6.out.mark (by decide) 5); have HT7 := Lib.hid (HT6.out.by_ F7 HU6.out.mark (by decide) 5); have HU7 := Lib.hid S7
         clear S7 F7)
      | (go_at_call 28; (with_reducible refine (HF1.out w7 _ 5 g5 HU7.out hb7').mono ?_); rintro e w8 ⟨rfl, S8, F8⟩
         have h8s := F8.size
         have hb8' : Below W.heap.size W w8 := hb7'.trans (F8.below (fun n hn e => by omega) hb7'.size)
         have hS8 := HS7.out.by_ F8 HU7.out.mark (by decide) 5; have hT8 := HT7.out.by_ F8 HU7.out.mark (by decide) 5
         obtain ⟨f8, hf8⟩ : ∃ f8, f8 = col (col (col (col f2 w4.heap.size 3) w5.heap.size 5) w6.heap.size 5) w7.heap.size 5 := ⟨_, rfl⟩
         have f8lo : ∀ k, k < W.heap.size → f8 k = 0 := fun k hk => by rw [hf8, col_ext w7 _ 5 k (by omega), col_ext w6 _ 5 k (by omega), col_ext w5 _ 5 k (by omega), col_ext w4 _ 3 k (by omega)]; exact HLO2.out k hk
         rw [← hf8] at hS8 hT8 S8
         have HS8 := Lib.hid hS8; have HT8 := Lib.hid hT8; have HU8 := Lib.hid S8; have HLO8 := Lib.hid f8lo
         clear S8 F8 hS8 hT8 hf8 f8lo)
      | (at_builtin; (refine wpl_append rfl _ _ _ rfl info_byte Try.underlying31 w8.heap.size (.slice (some ⟨w8.heap.size, 0, none⟩) 0 0) [] rfl (Own.nil_alloc w8 _ _ rfl (Nat.le_refl _)) A0 c0 n0 p rfl HN0.out ((HC0.out.below hb8').below ((Below.refl _ _).alloc (Nat.le_refl _) _)) (by rw [← HN0.out]; simp; omega) (by simp) ?_); intro v9 w9 O9 G9 _
         have hb9 : Below w8.heap.size w8 w9 := Below.grown ((Below.refl _ _).alloc (Nat.le_refl _) _) G9 (by simp) (fun k e => by have e' : some w8.heap.size = some k := e; injection e' with e'; omega)
         clear G9)
      | (at_builtin; (refine wpl_append rfl _ _ _ rfl info_byte Try.underlying31 w8.heap.size _ ([] ++ p) rfl O9 A1 c1 n1 q rfl HN1.out ((HC1.out.below hb8').below hb9) (by rw [List.nil_append, ← HN0.out, ← HN1.out]; omega) hb9.size ?_); intro v10 w10 O10 G10 _
         have hb10 : Below w8.heap.size w8 w10 := Below.grown hb9 G10 hb9.size (fun k e => own_base O9 k e)
         obtain ⟨A10, c10, e10, hc10, hC10⟩ := O10.arg
         rw [HL2.out] at e10 hc10
         rw [HCAT.out] at hC10
         subst e10
         have hb10' : Below W.heap.size W w10 := hb8'.trans (hb10.mono (by omega))
         have h10s := hb10.size
         have HC10 := Lib.hid hC10; have HS10 := Lib.hid (HS8.out.below hb10); have HT10 := Lib.hid (HT8.out.below hb10); have HU10 := Lib.hid (HU8.out.below hb10)
         clear O9 O10 G10 hC10 hb9 hb10)
      | (go_at_call 26; (with_reducible refine (HRN.out w10 f8 2 A10 c10 HC10.out hc10).mono ?_); rintro e w11 ⟨rfl, R11, hb11⟩
         have h11s := hb11.size
         have hb11' : Below W.heap.size W w11 := hb10'.trans (hb11.mono (by omega))
         have hlt11 := R11.lt
         obtain ⟨Ar, cr, gr, hcr, hCr⟩ := R11.row
         rw [← HABL.out] at gr hcr
         have HCR := Lib.hid hCr; have HR11 := Lib.hid R11; have HS11 := Lib.hid (HS10.out.up hb11 2); have HT11 := Lib.hid (HT10.out.up hb11 2); have HU11 := Lib.hid (HU10.out.up hb11 2)
         clear R11 hb11 hCr)
      | (go_at_call 26; (with_reducible refine (HRN.out w11 (col f8 w10.heap.size 2) 4 Ar cr HCR.out hcr).mono ?_); rintro e w12 ⟨rfl, R12, hb12⟩
         have h12s := hb12.size
         have hb12' : Below W.heap.size W w12 := hb11'.trans (hb12.mono (by omega))
         have gr2 : w12.cell? ⟨w10.heap.size, 0, none⟩ = some (.slice Ar (n0 + n1) cr) := (hb12.cell (p := ⟨w10.heap.size, 0, none⟩) hlt11).trans gr
         have HCR2 := Lib.hid (HCR.out.below hb12); have HX12 := Lib.hid R12; have HR12 := Lib.hid (HR11.out.up hb12 4); have HS12 := Lib.hid (HS11.out.up hb12 4); have HT12 := Lib.hid (HT11.out.up hb12 4); have HU12 := Lib.hid (HU11.out.up hb12 4)
         clear R12 hb12)
      | (go_at_call 26; (with_reducible refine (HRN.out w12 (col (col f8 w10.heap.size 2) w11.heap.size 4) 6 Ar cr HCR2.out hcr).mono ?_); rintro e w13 ⟨rfl, R13, hb13⟩
         have h13s := hb13.size
         have hb13' : Below W.heap.size W w13 := hb12'.trans (hb13.mono (by omega))
         have HY13 := Lib.hid R13; have HX13 := Lib.hid (HX12.out.up hb13 6); have HR13 := Lib.hid (HR12.out.up hb13 6); have HS13 := Lib.hid (HS12.out.up hb13 6); have HT13 := Lib.hid (HT12.out.up hb13 6); have HU13 := Lib.hid (HU12.out.up hb13 6)
         clear R13 hb13))
    obtain ⟨fz, hfz⟩ : ∃ fz, fz = col (col (col f8 w10.heap.size 2) w11.heap.size 4) w12.heap.size 6 := ⟨_, rfl⟩
    have hB1 : Both w13 fz 1 2 g1 w10.heap.size AB := by rw [hfz]; exact ⟨HS13.out, HR13.out⟩
    have hB3 : Both w13 fz 3 4 g3 w11.heap.size AB := by rw [hfz]; exact ⟨HT13.out, HX13.out⟩
    have hB5 : Both w13 fz 5 6 g5 w12.heap.size AB := by rw [hfz]; exact ⟨HU13.out, HY13.out⟩
    have hlo : ∀ k, k < W.heap.size → fz k = 0 := fun k hk => by rw [hfz, col_ext w12 _ 6 k (by omega), col_ext w11 _ 4 k (by omega), col_ext w10 _ 2 k (by omega)]; exact HLO8.out k hk
    have K1 := Lib.hid hB1; have K3 := Lib.hid hB3; have K5 := Lib.hid hB5; have KL := Lib.hid hlo; have KB := Lib.hid hb13'
    obtain ⟨h1, hh1⟩ : ∃ h1, h1 = w10.heap.size := ⟨_, rfl⟩
    obtain ⟨h3, hh3⟩ : ∃ h3, h3 = w11.heap.size := ⟨_, rfl⟩
    obtain ⟨h5, hh5⟩ : ∃ h5, h5 = w12.heap.size := ⟨_, rfl⟩
    rw [← hh1] at K1
    rw [← hh3] at K3
    rw [← hh5] at K5
    rw [← hh1, ← hh3, ← hh5]
    clear hfz hB1 hB3 hB5 hlo hh1 hh3 hh5 gr gr2 HS2 HS4 HS5 HT5 HS6 HT6 HU6 HS7 HT7 HU7 HS8 HT8 HU8 HS10 HT10 HU10 HS11 HT11 HU11 HR11 HS12 HT12 HU12 HR12 HX12 HS13 HT13 HU13 HR13 HX13 HY13 HCR HCR2 HC4 HC10 HNS0 HF1 HF5 HNS3 HNS5 HRN HLO2 HLO8
    clear hb1 hb2 hb4' hb5' hb6' hb7' hb8' hb10' hb11' hb12' hb13'
    go_loopw [13] (fun v13 ws => ∃ k : Nat, k ≤ n2 ∧ v13 = .int .i64 (k : Int) ∧ (∃ f L, (∀ q, q < W.heap.size → f q = 0) ∧ Both ws f 1 2 g1 h1 L ∧ Both ws f 3 4 g3 h3 L ∧ Both ws f 5 6 g5 h5 L) ∧ Below W.heap.size W ws) (fun v13 _ => n2 - (intOf v13).toNat)
    case atStart => exact ⟨0, by omega, rfl, ⟨fz, AB, KL.out, K1.out, K3.out, K5.out⟩, KB.out⟩
    case round =>
      clear K1 K3 K5 KL KB
      obtain ⟨m, hm, rfl, ⟨f, L, hlo, hB1, hB3, hB5⟩, hb⟩ := hrel
      by_cases hmlt : m < n2
      · have hx : m < acts.length := by have := HN2.out; omega
        obtain ⟨b, o, A', c', hA1, hbl, q0, q1, hle1, hC1, hAl, hal⟩ := act_at HC2.out m hmlt hx HOK.out
        replace q0 := (hb.cell (p := ⟨b, o + m * 2, none⟩) hbl).trans q0
        replace q1 := (hb.cell (p := ⟨b, o + (m * 2 + 1), none⟩) hbl).trans q1
        rw [← Nat.add_assoc] at q1
        obtain ⟨X, hX⟩ : ∃ X, X = acts[m] := ⟨_, rfl⟩
        rw [← hX] at q0 q1 hle1 hC1 hAl hal
        obtain ⟨K, hK⟩ : ∃ K, K = X.f0 := ⟨_, rfl⟩
        obtain ⟨nn, hnn⟩ : ∃ nn, nn = X.f1.length := ⟨_, rfl⟩
        rw [← hK] at q0
        rw [← hnn] at q1 hle1 hAl
        have k2 : (m : Int) < (n2 : Int) := by omega
        have k3 : (0 : Int) ≤ (m : Int) := by omega
        by_cases hK3 : K = 3
        · have t3 : (K == 3) = true := by rw [hK3]; rfl
          have H1 := Lib.hid hB1; have H3 := Lib.hid hB3; have H5 := Lib.hid hB5; have HLO := Lib.hid hlo; have HB := Lib.hid hb
          subst hA1
          clear hB1 hB3 hB5 hlo hb hK3 hX hK hnn hC1 hAl hal hx
          go_wp2
          go_roundw
          case rel => exact ⟨m + 1, by omega, by go_num, ⟨f, L, HLO.out, H1.out, H3.out, H5.out⟩, HB.out⟩
          case measure => simp [intOf]; omega
        · have t3 : (K == 3) = false := by
            rw [Bool.eq_false_iff]
            intro h
            exact hK3 (eq_of_beq h)
          have hdraw : ∀ (V : World) (f' : Nat → Nat) (i j g h : Nat), i ≠ j → 1 ≤ i → 1 ≤ j → Below W.heap.size W V → (∀ q, q < W.heap.size → f' q = 0) → Both V f' i j g h L → Calls Try.prog 27 #[.pointer (some ⟨g, 0, none⟩), .pointer (some ⟨h, 0, none⟩), .agg #[.int .i64 K, .slice A' nn c']] V (Drew V f' i j g h (nextL K (toN X.f1) L)) :=
            fun V f' i j g h hij hi hj hbV hf' hBV => draw_any f' i j g h L (toN X.f1) K A' nn c' V hij hBV (by rw [toN_len]; exact hnn) (fun e => absurd e hK3) hle1 hal (hC1.below hbV) (fun h0 ad e => by rw [hf' _ (hAl h0 ad e)]; omega)
          obtain ⟨M, hM⟩ : ∃ M, M = nextL K (toN X.f1) L := ⟨_, rfl⟩
          rw [← hM] at hdraw
          have HD := Lib.hid hdraw; have H1 := Lib.hid hB1; have H3 := Lib.hid hB3; have H5 := Lib.hid hB5; have HLO := Lib.hid hlo; have HB := Lib.hid hb
          have HQ0 := Lib.hid q0; have HQ1 := Lib.hid q1
          subst hA1
          clear hdraw hB1 hB3 hB5 hlo hb hK3 hX hK hnn hC1 hAl hal hx hM
          go_wp2_with (first
            | (go_at_call 27; (with_reducible refine (HD.out wr f 1 2 g1 h1 (by decide) (by decide) (by decide) HB.out HLO.out H1.out).mono ?_); rintro e wa ⟨rfl, ⟨fa, hea, hBa⟩, Fa⟩
               have hba : Below W.heap.size W wa := HB.out.trans (Fa.below (fun q hq e => by rw [HLO.out q hq] at e; rcases e with e | e <;> cases e) HB.out.size)
               have hloa : ∀ q, q < W.heap.size → fa q = 0 := fun q hq => by rw [hea q (Nat.lt_of_lt_of_le hq HB.out.size)]; exact HLO.out q hq
               have hB3a := H3.out.far hea Fa (fun k hk e => by omega)
               have hB5a := H5.out.far hea Fa (fun k hk e => by omega)
               have q0a : wa.cell? ⟨b, o + m * 2, none⟩ = some (.int .i64 K) := (World.cell?_of_block (a := ⟨b, o + m * 2, none⟩) (Fa.at_ (Nat.lt_of_lt_of_le hbl HB.out.size) (fun e => by rw [HLO.out b hbl] at e; rcases e with e | e <;> cases e))).trans HQ0.out
               have q1a : wa.cell? ⟨b, o + m * 2 + 1, none⟩ = some (.slice A' nn c') := (World.cell?_of_block (a := ⟨b, o + m * 2 + 1, none⟩) (Fa.at_ (Nat.lt_of_lt_of_le hbl HB.out.size) (fun e => by rw [HLO.out b hbl] at e; rcases e with e | e <;> cases e))).trans HQ1.out
               have HBa := Lib.hid hba; have HLOa := Lib.hid hloa; have H1a := Lib.hid hBa; have H3a := Lib.hid hB3a; have H5a := Lib.hid hB5a; have HQ0a := Lib.hid q0a; have HQ1a := Lib.hid q1a
               clear hba hloa hea hBa Fa hB3a hB5a)
            | (go_at_call 27; (with_reducible refine (HD.out wa fa 3 4 g3 h3 (by decide) (by decide) (by decide) HBa.out HLOa.out H3a.out).mono ?_); rintro e wb ⟨rfl, ⟨fb, heb, hBb⟩, Fb⟩
               have hbb : Below W.heap.size W wb := HBa.out.trans (Fb.below (fun q hq e => by rw [HLOa.out q hq] at e; rcases e with e | e <;> cases e) HBa.out.size)
               have hlob : ∀ q, q < W.heap.size → fb q = 0 := fun q hq => by rw [heb q (Nat.lt_of_lt_of_le hq HBa.out.size)]; exact HLOa.out q hq
               have hB1b := H1a.out.far heb Fb (fun k hk e => by omega)
               have hB5b := H5a.out.far heb Fb (fun k hk e => by omega)
               have q0b : wb.cell? ⟨b, o + m * 2, none⟩ = some (.int .i64 K) := (World.cell?_of_block (a := ⟨b, o + m * 2, none⟩) (Fb.at_ (Nat.lt_of_lt_of_le hbl HBa.out.size) (fun e => by rw [HLOa.out b hbl] at e; rcases e with e | e <;> cases e))).trans HQ0a.out
               have q1b : wb.cell? ⟨b, o + m * 2 + 1, none⟩ = some (.slice A' nn c') := (World.cell?_of_block (a := ⟨b, o + m * 2 + 1, none⟩) (Fb.at_ (Nat.lt_of_lt_of_le hbl HBa.out.size) (fun e => by rw [HLOa.out b hbl] at e; rcases e with e | e <;> cases e))).trans HQ1a.out
               have HBb := Lib.hid hbb; have HLOb := Lib.hid hlob; have H1b := Lib.hid hB1b; have H3b := Lib.hid hBb; have H5b := Lib.hid hB5b
               clear hbb hlob heb hBb Fb hB1b hB5b)
            | (go_at_call 27; (with_reducible refine (HD.out wb fb 5 6 g5 h5 (by decide) (by decide) (by decide) HBb.out HLOb.out H5b.out).mono ?_); rintro e wc ⟨rfl, ⟨fc, hec, hBc⟩, Fc⟩
               have hbc : Below W.heap.size W wc := HBb.out.trans (Fc.below (fun q hq e => by rw [HLOb.out q hq] at e; rcases e with e | e <;> cases e) HBb.out.size)
               have hloc : ∀ q, q < W.heap.size → fc q = 0 := fun q hq => by rw [hec q (Nat.lt_of_lt_of_le hq HBb.out.size)]; exact HLOb.out q hq
               have hB1c := H1b.out.far hec Fc (fun k hk e => by omega)
               have hB3c := H3b.out.far hec Fc (fun k hk e => by omega)
               have HBc := Lib.hid hbc; have HLOc := Lib.hid hloc; have H1c := Lib.hid hB1c; have H3c := Lib.hid hB3c; have H5c := Lib.hid hBc
               clear hbc hloc hec hBc Fc hB1c hB3c))
          go_roundw
          case rel => exact ⟨m + 1, by omega, by go_num, ⟨fc, M, HLOc.out, H1c.out, H3c.out, H5c.out⟩, HBc.out⟩
          case measure => simp [intOf]; omega
      · obtain ⟨n, hn⟩ : ∃ n, n = L.length := ⟨_, rfl⟩
        have hleft : ∀ (V : World) (i g : Nat), Src V f i g L → Calls Try.prog 22 #[.pointer (some ⟨g, 0, none⟩)] V fun e w' => e = .returned (.int .i64 (n : Int)) ∧ V = w' := fun V i g hV => by rw [hn]; exact left_any f i g L V hV
        have HL := Lib.hid hleft; have H1 := Lib.hid hB1.1; have H3 := Lib.hid hB3.1; have H5 := Lib.hid hB5.1; have HB := Lib.hid hb
        have k2 : ¬ (m : Int) < (n2 : Int) := by omega
        clear hleft hB1 hB3 hB5 hb hlo hn
        go_wp2_with (first
          | (go_at_call 22; (with_reducible refine (HL.out wr 1 g1 H1.out).mono ?_); rintro e w' ⟨rfl, rfl⟩)
          | (go_at_call 22; (with_reducible refine (HL.out wr 3 g3 H3.out).mono ?_); rintro e w' ⟨rfl, rfl⟩)
          | (go_at_call 22; (with_reducible refine (HL.out wr 5 g5 H5.out).mono ?_); rintro e w' ⟨rfl, rfl⟩)
          | (go_at_call 12; (with_reducible refine (live_any _).mono ?_); rintro e w' ⟨rfl, hb9⟩))
        go_ret
        exact ⟨rfl, HB.out.trans (hb9.mono HB.out.size)⟩
  · have d0 : decide ((4096 : Int) < (n0 : Int) + (n1 : Int)) = true := decide_eq_true (by omega)
    clear hn0 hn1 hn2 hp hq hC0 hC1 hC2 hok
    go_enter Try.func9, Try.ntmps9
    go_wp2_with (go_at_call 12; (with_reducible refine (live_any _).mono ?_); rintro e w1 ⟨rfl, hb1⟩)
    go_ret
    exact ⟨rfl, hb1⟩
theorem row_pieces (a0 a1 : List Int) (a2 : List S46) (o0 : a0.length * 1 ≤ 140737488351232 ∧ ∀ y, y ∈ a0 → (Lit.int .u8 y).wf = true) (o1 : a1.length * 1 ≤ 140737488351232 ∧ ∀ y, y ∈ a1 → (Lit.int .u8 y).wf = true)
    (o2 : a2.length * 32 ≤ 140737488351232 ∧ ∀ y, y ∈ a2 → ((Lit.int .i64 y.f0).wf = true) ∧ (y.f1.length * 1 ≤ 140737488351232 ∧ ∀ z, z ∈ y.f1 → (Lit.int .u8 z).wf = true))
    (W : World) (A0 : Option Addr) (c0 : Nat) (A1 : Option Addr) (c1 : Nat) (A2 : Option Addr) (c2 : Nat)
    (hr0 : Kd.C (Kd.int .u8) W A0 a0.length a0) (hc0 : a0.length ≤ c0) (hr1 : Kd.C (Kd.int .u8) W A1 a1.length a1) (hc1 : a1.length ≤ c1) (hr2 : Kd.C k46 W A2 a2.length a2) (hc2 : a2.length ≤ c2) :
    Calls Try.prog 9 #[.slice A0 a0.length c0, .slice A1 a1.length c1, .slice A2 a2.length c2] W fun e w' => e = .returned (.bool true) ∧ Below W.heap.size W w' := by
  obtain ⟨g1, g2⟩ := bytes_of_ok o0.2
  obtain ⟨k1, k2⟩ := bytes_of_ok o1.2
  exact pieces_law (toN a0) (toN a1) a2 A0 _ c0 A1 _ c1 A2 _ c2 W (toN_len a0).symm (toN_len a1).symm rfl (by omega) (by omega) (by omega) g2 k2 hc0 hc1 hc2 (by show Kd.C _ _ _ _ _; rw [g1, toN_len]; exact hr0) (by show Kd.C _ _ _ _ _; rw [k1, toN_len]; exact hr1) hr2 (fun y hy b hb => (o2.2 y hy).2.2 b hb)
end Go.Proofs.Ytaeipffenlkjpaa.Sha
