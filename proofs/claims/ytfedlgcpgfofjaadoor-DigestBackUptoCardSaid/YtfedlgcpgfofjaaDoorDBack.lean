/-
  DigestBack: bytes written as text are read back; a text that is read is what would be written.
-/
import Derived.Test.YtfedlgcpgfofjaaDoorDCode
import Derived.Test.YtfedlgcpgfofjaaDoorDBase3
namespace Go.Proofs.YtfedlgcpgfofjaaDoor.Sha
open Go.RowKit Go.Proofs.YtfedlgcpgfofjaaDoorW.PrintWords Go.Proofs.YtfedlgcpgfofjaaDoor.PAll Go.Proofs.YtfedlgcpgfofjaaDoor.Plain
set_option linter.unusedVariables false
set_option maxRecDepth 100000 in
set_option maxHeartbeats 2000000 in
theorem law_back (p : List Nat) (s : ByteArray) (A : Option Addr) (n c : Nat) (w : World) (hn : n = p.length) (hm : n ≤ 1000000000) (hc : n ≤ c) (hpa : All 256 p) (hC : C8 w A p.length p) (hT : TabsP w) :
    Calls Tryd.prog 8 #[.slice A n c, .string s] w fun e w' => e = .returned (.bool true) ∧ Below w.heap.size w w' := by
  obtain ⟨T, hTx⟩ : ∃ T, T = txt (spell al64 (six p)) := ⟨_, rfl⟩
  obtain ⟨X, hX⟩ : ∃ X, X = txt (spell al16 (four p)) := ⟨_, rfl⟩
  have hTs : T.size = (six p).length := by rw [hTx, txt_size, spell_len]
  have hXs : X.size = 2 * p.length := by rw [hX, txt_size, spell_len, four_len]
  have hTl : T.size ≤ 4000000000 := by have := six_le p; omega
  obtain ⟨FT, hFT⟩ : ∃ r, r = from64 (sN T) := ⟨_, rfl⟩
  obtain ⟨FX, hFX⟩ : ∃ r, r = from16 (sN X) := ⟨_, rfl⟩
  obtain ⟨FS, hFS⟩ : ∃ r, r = from64 (sN s) := ⟨_, rfl⟩
  obtain ⟨GS, hGS⟩ : ∃ r, r = from16 (sN s) := ⟨_, rfl⟩
  have hT1 : T.size ≤ 65536 → FT = (p, 0, 0) := fun h => by rw [hFT, hTx, sN_txt _ (spell64_lt _)]; exact from64_back p hpa (by omega)
  have hX1 : X.size ≤ 65536 → FX = (p, 0, 0) := fun h => by rw [hFX, hX, sN_txt _ (spell16_lt _)]; exact from16_back p hpa (by omega)
  have hS1 : FS.2.1 = 0 → Lt 256 FS.1 ∧ txt (spell al64 (six FS.1)) = s := fun h => by
    rw [hFS] at h ⊢
    obtain ⟨h1, h2⟩ := from64_spelt _ h
    exact ⟨h1, by rw [h2, txt_sN]⟩
  have hS2 : GS.2.1 = 0 → Lt 256 GS.1 ∧ txt (spell al16 (four GS.1)) = s := fun h => by
    rw [hGS] at h ⊢
    obtain ⟨h1, h2⟩ := from16_spelt _ h
    exact ⟨h1, by rw [h2, txt_sN]⟩
  have hSl : FS.2.1 = 0 → FS.1.length ≤ 65536 := fun h => by
    rw [hFS] at h ⊢
    exact from64_len _
  have hGl : GS.2.1 = 0 → GS.1.length ≤ 65536 := fun h => by
    rw [hGS] at h ⊢
    exact from16_len _
  have hb64 : ∀ (V : World) (B : Option Addr) (m d : Nat), m = p.length → m ≤ d → C8 V B p.length p → Calls Tryd.prog 33 #[.slice B m d] V fun e w' => e = .returned (.string T) ∧ Below V.heap.size V w' := fun V B m d h1 h2 h3 => by
    rw [hTx]; exact tob64_any p B m d V h1 (by omega) h2 hpa h3
  have hhex : ∀ (V : World) (B : Option Addr) (m d : Nat), m = p.length → m ≤ d → C8 V B p.length p → Calls Tryd.prog 34 #[.slice B m d] V fun e w' => e = .returned (.string X) ∧ Below V.heap.size V w' := fun V B m d h1 h2 h3 => by
    rw [hX]; exact tohex_any p B m d V h1 (by omega) h2 hpa h3
  have hfT : ∀ V : World, Calls Tryd.prog 28 #[.string T] V fun e w' => ∃ v, e = .returned (.tuple #[v, .int .i64 (FT.2.1 : Int), .int .i64 (FT.2.2 : Int)]) ∧ Own w' V.heap.size v FT.1 ∧ Below V.heap.size V w' := fun V => by rw [hFT]; exact from64_any T V
  have hfX : ∀ V : World, Calls Tryd.prog 29 #[.string X] V fun e w' => ∃ v, e = .returned (.tuple #[v, .int .i64 (FX.2.1 : Int), .int .i64 (FX.2.2 : Int)]) ∧ Own w' V.heap.size v FX.1 ∧ Below V.heap.size V w' := fun V => by rw [hFX]; exact from16_any X V
  have hfS : ∀ V : World, Calls Tryd.prog 28 #[.string s] V fun e w' => ∃ v, e = .returned (.tuple #[v, .int .i64 (FS.2.1 : Int), .int .i64 (FS.2.2 : Int)]) ∧ Own w' V.heap.size v FS.1 ∧ Below V.heap.size V w' := fun V => by rw [hFS]; exact from64_any s V
  have hgS : ∀ V : World, Calls Tryd.prog 29 #[.string s] V fun e w' => ∃ v, e = .returned (.tuple #[v, .int .i64 (GS.2.1 : Int), .int .i64 (GS.2.2 : Int)]) ∧ Own w' V.heap.size v GS.1 ∧ Below V.heap.size V w' := fun V => by rw [hGS]; exact from16_any s V
  have hlive : ∀ (V : World), Below w.heap.size w V → Calls Tryd.prog 15 #[] V fun e w' => e = .returned (.bool true) ∧ Below V.heap.size V w' := fun V hb => live_any V (hT.below hb).1 (hT.below hb).2.1 (hT.below hb).2.2
  have HB64 := Lib.hid hb64; have HHEX := Lib.hid hhex; have HFT := Lib.hid hfT; have HFX := Lib.hid hfX; have HFS := Lib.hid hfS; have HGS := Lib.hid hgS; have HLIVE := Lib.hid hlive
  have HT1 := Lib.hid hT1; have HX1 := Lib.hid hX1; have HS1 := Lib.hid hS1; have HS2 := Lib.hid hS2; have HSL := Lib.hid hSl; have HGL := Lib.hid hGl; have HN := Lib.hid hn; have HC := Lib.hid hC
  clear hb64 hhex hfT hfX hfS hgS hlive hT1 hX1 hS1 hS2 hSl hGl hn hC hT hFT hFX hFS hGS hX hTx hXs hTs hpa
  have k0 : (0 : Int) ≤ (n : Int) := by omega
  have t0 : (0 : Int) ≤ (T.size : Int) := by omega
  have x0 : (0 : Int) ≤ (X.size : Int) := by omega
  go_enter Tryd.func8, Tryd.ntmps8
  go_upto_region 3 with (first
    | (at_builtin; refine wpl_append rfl _ _ _ rfl info_byte Tryd.underlying22 w.heap.size (.slice (some ⟨w.heap.size, 0, none⟩) 0 0) [] rfl (Own.nil_alloc w _ _ rfl (Nat.le_refl _)) A c n p rfl HN.out
          (HC.out.below ((Below.refl _ _).alloc (Nat.le_refl _) _)) (by rw [← HN.out]; simp; omega) (by simp) ?_
       intro v1 w1 O1 G1 P1
       rw [List.nil_append] at O1
       obtain ⟨A1, n1, c1, hn1, rfl, hC1⟩ := O1.arg_
       have hb1 : Below w.heap.size w w1 := ((Below.refl _ _).alloc (Nat.le_refl _) _).grown G1 (by simp) (by simp [Value.ownBlock])
       have HN1 := Lib.hid hn1
       clear G1 P1 hn1)
    | (go_at_call 33; (with_reducible refine (HB64.out _ _ _ _ HN1.out (Own.c8 O1).2.1 hC1).mono ?_); rintro e w2 ⟨rfl, hb2⟩
       have hb2' := hb1.trans (hb2.mono hb1.size)
       clear hb2 hb1 O1 hC1)
    | (go_at_call 28; (with_reducible refine (HFT.out _).mono ?_); rintro e w3 ⟨v3, rfl, O3, hb3⟩
       have hb3' := hb2'.trans (hb3.mono hb2'.size)
       clear hb2' hb3))
  go_cut [6, 7, 32] from 9 (fun _ _ s wc => s = .bool false ∧ Below w.heap.size w wc)
  case first =>
    by_cases hsz : T.size ≤ 65536
    · have q0 : ((T.size : Nat) : Int) ≤ 65536 := by omega
      have e := HT1.out hsz
      have e1 : (FT.2.1 : Int) = 0 := by rw [e]; rfl
      have e2 : FT.1 = p := by rw [e]
      rw [e2] at O3
      obtain ⟨A4, n4, c4, hn4, hv4, hC4⟩ := O3.arg_
      subst hv4
      have HN4 := Lib.hid hn4
      have HC4 := Lib.hid hC4
      clear hn4 hC4 e e2
      go_wp2_with (first
        | (go_at_call 31; (with_reducible refine (num_any _ _).mono ?_); rintro e w4 ⟨rfl, hb4⟩
           have O4 := O3.below hb4
           have hb4' := hb3'.trans (hb4.mono hb3'.size)
           clear hb4 hb3')
        | (go_at_call 32; (with_reducible refine (same_self p _ _ _ _ _ _ _ HN4.out HN.out (Own.c8 O4).2.1 hc (Own.c8 O4).2.2 (HC.out.below hb4')).mono ?_); rintro e w5 ⟨rfl, hb5⟩
           have hb5' := hb4'.trans (hb5.mono hb4'.size)
           clear hb5 hb4' O4))
      go_meet
      case rel => exact ⟨rfl, hb5'⟩
    · have q0 : ¬ ((T.size : Nat) : Int) ≤ 65536 := by omega
      go_wp2
      go_meet
      case rel => exact ⟨rfl, hb3'⟩
  case rest =>
    obtain ⟨rfl, hbc1⟩ := hcut
    clear O3 hb3'
    go_upto_region 7 with (first
      | (at_builtin; refine wpl_append rfl _ _ _ rfl info_byte Tryd.underlying22 w.heap.size (.slice (some ⟨wc.heap.size, 0, none⟩) 0 0) [] rfl (Own.nil_alloc wc _ _ rfl hbc1.size) A c n p rfl HN.out
            (HC.out.below (hbc1.alloc hbc1.size _)) (by rw [← HN.out]; simp; omega) (by have := hbc1.size; simp; omega) ?_
         intro v1 w1 O1 G1 P1
         rw [List.nil_append] at O1
         obtain ⟨A1, n1, c1, hn1, rfl, hC1⟩ := O1.arg_
         have hb1 : Below w.heap.size w w1 := (hbc1.alloc hbc1.size _).grown G1 (by have := hbc1.size; simp; omega) (by have := hbc1.size; simp [Value.ownBlock]; omega)
         have HN1 := Lib.hid hn1
         clear G1 P1 hn1 hbc1)
      | (go_at_call 34; (with_reducible refine (HHEX.out _ _ _ _ HN1.out (Own.c8 O1).2.1 hC1).mono ?_); rintro e w2 ⟨rfl, hb2⟩
         have hb2' := hb1.trans (hb2.mono hb1.size)
         clear hb2 hb1 O1 hC1)
      | (go_at_call 29; (with_reducible refine (HFX.out _).mono ?_); rintro e w3 ⟨v3, rfl, O3, hb3⟩
         have hb3' := hb2'.trans (hb3.mono hb2'.size)
         clear hb2' hb3))
    go_cut [6, 7, 56] from 9 (fun _ _ s wc => s = .bool false ∧ Below w.heap.size w wc)
    case first =>
      by_cases hsz : X.size ≤ 65536
      · have q0 : ((X.size : Nat) : Int) ≤ 65536 := by omega
        have e := HX1.out hsz
        have e1 : (FX.2.1 : Int) = 0 := by rw [e]; rfl
        have e2 : FX.1 = p := by rw [e]
        rw [e2] at O3
        obtain ⟨A4, n4, c4, hn4, hv4, hC4⟩ := O3.arg_
        subst hv4
        have HN4 := Lib.hid hn4
        have HC4 := Lib.hid hC4
        clear hn4 hC4 e e2
        go_wp2_with (first
          | (go_at_call 31; (with_reducible refine (num_any _ _).mono ?_); rintro e w4 ⟨rfl, hb4⟩
             have O4 := O3.below hb4
             have hb4' := hb3'.trans (hb4.mono hb3'.size)
             clear hb4 hb3')
          | (go_at_call 32; (with_reducible refine (same_self p _ _ _ _ _ _ _ HN4.out HN.out (Own.c8 O4).2.1 hc (Own.c8 O4).2.2 (HC.out.below hb4')).mono ?_); rintro e w5 ⟨rfl, hb5⟩
             have hb5' := hb4'.trans (hb5.mono hb4'.size)
             clear hb5 hb4' O4))
        go_meet
        case rel => exact ⟨rfl, hb5'⟩
      · have q0 : ¬ ((X.size : Nat) : Int) ≤ 65536 := by omega
        go_wp2
        go_meet
        case rel => exact ⟨rfl, hb3'⟩
    case rest =>
      obtain ⟨rfl, hbc2⟩ := hcut
      clear O3 hb3'
      go_upto_region 10 with (
        go_at_call 28; (with_reducible refine (HFS.out _).mono ?_); rintro e w3 ⟨v3, rfl, O3, hb3⟩
        have hb3' := hbc2.trans (hb3.mono hbc2.size)
        clear hbc2 hb3)
      go_cut [6, 7, 71] from 9 (fun _ _ s wc => s = .bool false ∧ Below w.heap.size w wc)
      case first =>
        by_cases he : FS.2.1 = 0
        · have e1 : (FS.2.1 : Int) = 0 := by omega
          obtain ⟨l1, l2⟩ := HS1.out he
          have l3 := HSL.out he
          obtain ⟨A4, n4, c4, hn4, hv4, hC4⟩ := O3.arg_
          subst hv4
          have HN4 := Lib.hid hn4; have L1 := Lib.hid l1; have L2 := Lib.hid l2; have L3 := Lib.hid l3
          clear hn4 hC4 he l1 l2 l3
          go_wp2_with (first
            | (go_at_call 31; (with_reducible refine (num_any _ _).mono ?_); rintro e w4 ⟨rfl, hb4⟩
               have O4 := O3.below hb4
               have hb4' := hb3'.trans (hb4.mono hb3'.size)
               clear hb4 hb3')
            | (go_at_call 33; (with_reducible refine (tob64_any FS.1 _ _ _ _ HN4.out (by have := HN4.out; have := L3.out; omega) (Own.c8 O4).2.1 L1.out (Own.c8 O4).2.2).mono ?_); rintro e w5 ⟨he5, hb5⟩
               rw [L2.out] at he5
               subst he5
               have hb5' := hb4'.trans (hb5.mono hb4'.size)
               clear hb5 hb4' O4))
          go_meet
          case rel => exact ⟨rfl, hb5'⟩
        · have e1 : ¬ ((FS.2.1 : Int) = 0) := by omega
          go_wp2_with (
            go_at_call 31; (with_reducible refine (num_any _ _).mono ?_); rintro e w4 ⟨rfl, hb4⟩
            have hb4' := hb3'.trans (hb4.mono hb3'.size)
            clear hb4 hb3')
          go_meet
          case rel => exact ⟨rfl, hb4'⟩
      case rest =>
        obtain ⟨rfl, hbc3⟩ := hcut
        clear O3 hb3'
        by_cases he : GS.2.1 = 0
        · have e1 : (GS.2.1 : Int) = 0 := by omega
          obtain ⟨l1, l2⟩ := HS2.out he
          have l3 := HGL.out he
          have L1 := Lib.hid l1; have L2 := Lib.hid l2; have L3 := Lib.hid l3
          clear he l1 l2 l3
          go_wp2_with (first
            | (go_at_call 29; (with_reducible refine (HGS.out _).mono ?_); rintro e w3 ⟨v3, rfl, O3, hb3⟩
               obtain ⟨A4, n4, c4, hn4, hv4, hC4⟩ := O3.arg_
               subst hv4
               have HN4 := Lib.hid hn4
               have hb3' := hbc3.trans (hb3.mono hbc3.size)
               clear hbc3 hb3 hn4 hC4)
            | (go_at_call 15; (with_reducible refine (HLIVE.out _ hb3').mono ?_); rintro e w4 ⟨rfl, hb4⟩
               have O4 := O3.below hb4
               have hb4' := hb3'.trans (hb4.mono hb3'.size)
               clear hb4 hb3' O3)
            | (go_at_call 31; (with_reducible refine (num_any _ _).mono ?_); rintro e w5 ⟨rfl, hb5⟩
               have O5 := O4.below hb5
               have hb5' := hb4'.trans (hb5.mono hb4'.size)
               clear hb5 hb4' O4)
            | (go_at_call 34; (with_reducible refine (tohex_any GS.1 _ _ _ _ HN4.out (by have := HN4.out; have := L3.out; omega) (Own.c8 O5).2.1 L1.out (Own.c8 O5).2.2).mono ?_); rintro e w6 ⟨he6, hb6⟩
               rw [L2.out] at he6
               subst he6
               have hb6' := hb5'.trans (hb6.mono hb5'.size)
               clear hb6 hb5' O5))
          go_ret
          exact ⟨rfl, hb6'⟩
        · have e1 : ¬ ((GS.2.1 : Int) = 0) := by omega
          go_wp2_with (first
            | (go_at_call 29; (with_reducible refine (HGS.out _).mono ?_); rintro e w3 ⟨v3, rfl, O3, hb3⟩
               have hb3' := hbc3.trans (hb3.mono hbc3.size)
               clear hbc3 hb3)
            | (go_at_call 15; (with_reducible refine (HLIVE.out _ hb3').mono ?_); rintro e w4 ⟨rfl, hb4⟩
               have hb4' := hb3'.trans (hb4.mono hb3'.size)
               clear hb4 hb3' O3)
            | (go_at_call 31; (with_reducible refine (num_any _ _).mono ?_); rintro e w5 ⟨rfl, hb5⟩
               have hb5' := hb4'.trans (hb5.mono hb4'.size)
               clear hb5 hb4'))
          go_ret
          exact ⟨rfl, hb5'⟩
theorem row_back (a0 : List Int) (a1 : ByteArray) (o0 : a0.length * 1 ≤ 140737488351232 ∧ ∀ y, y ∈ a0 → (Lit.int .u8 y).wf = true) (o1 : a1.size ≤ 140737488351232)
    (hb : ((a0.map fun y => 1).sum + 1) + (a1.size + 1) ≤ 1048576) (W : World) (A0 : Option Addr) (c0 : Nat)
    (hr0 : Kd.C (Kd.int .u8) W A0 a0.length a0) (hc0 : a0.length ≤ c0) (hT : TabsP W) :
    Calls Tryd.prog 8 #[.slice A0 a0.length c0, .string a1] W fun e w' => e = .returned (.bool true) ∧ Below W.heap.size W w' := by
  obtain ⟨h1, h2⟩ := bytes_of_ok o0.2
  rw [sum_ones] at hb
  have hl := toN_len a0
  exact law_back (toN a0) a1 A0 a0.length c0 W hl.symm (by omega) hc0 h2 (by show Kd.C _ _ _ _ _; rw [h1, hl]; exact hr0) hT
end Go.Proofs.YtfedlgcpgfofjaaDoor.Sha
