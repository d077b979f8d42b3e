/-
  DigestCodes: every Base64, Hex, FromBase64, FromHex is the document's.
-/
import Derived.Test.YtfedlgcpgfofjaaDoorDCode
import Derived.Test.YtfedlgcpgfofjaaDoorPCodeR
import Derived.Test.YtfedlgcpgfofjaaDoorDBase3
namespace Go.Proofs.YtfedlgcpgfofjaaDoor.Sha
open Go.RowKit Go.Proofs.YtfedlgcpgfofjaaDoorW.PrintWords Go.Proofs.YtfedlgcpgfofjaaDoor.PAll Go.Proofs.YtfedlgcpgfofjaaDoor.Plain
set_option linter.unusedVariables false
theorem rtob64_any (p : List Nat) (A : Option Addr) (n c : Nat) (w : World) (hn : n = p.length) (hl : n ≤ 1000000000000) (hc : n ≤ c) (hp : Lt 256 p) (hC : C8 w A p.length p) :
    Calls Tryd.prog 26 #[.slice A n c] w fun e w' => e = .returned (.string (txt (spell al64 (six p)))) ∧ Below w.heap.size w w' := by
  subst hn
  obtain ⟨k, hk⟩ := Ev.rounds (rtob64_ev p hp hl)
  have h := wicketref02_Base64.calls k A c (toI p) _ w (by rw [toI_len]; exact hC) (by rw [toI_len]; exact hc) hk
  rw [toI_len] at h
  exact h
theorem rtohex_any (p : List Nat) (A : Option Addr) (n c : Nat) (w : World) (hn : n = p.length) (hl : n ≤ 1000000000000) (hc : n ≤ c) (hp : Lt 256 p) (hC : C8 w A p.length p) :
    Calls Tryd.prog 27 #[.slice A n c] w fun e w' => e = .returned (.string (txt (spell al16 (four p)))) ∧ Below w.heap.size w w' := by
  subst hn
  obtain ⟨k, hk⟩ := Ev.rounds (rtohex_ev p hp hl)
  have h := wicketref02_Hex.calls k A c (toI p) _ w (by rw [toI_len]; exact hC) (by rw [toI_len]; exact hc) hk
  rw [toI_len] at h
  exact h
theorem rfrom64_any (s : ByteArray) (w : World) :
    Calls Tryd.prog 35 #[.string s] w fun e w' => ∃ v, e = .returned (.tuple #[v, .int .i64 ((from64 (sN s)).2.1 : Int), .int .i64 ((from64 (sN s)).2.2 : Int)]) ∧ Own w' w.heap.size v (from64 (sN s)).1 ∧ Below w.heap.size w w' := by
  obtain ⟨k, hk⟩ := Ev.rounds (rfrom64_ev s)
  exact (wicketref02_FromBase64.calls k s _ _ _ w hk).mono fun e w' ⟨v, he, hR, hb⟩ => ⟨v, he, Own.of_R hR, hb⟩
theorem rfrom16_any (s : ByteArray) (w : World) :
    Calls Tryd.prog 36 #[.string s] w fun e w' => ∃ v, e = .returned (.tuple #[v, .int .i64 ((from16 (sN s)).2.1 : Int), .int .i64 ((from16 (sN s)).2.2 : Int)]) ∧ Own w' w.heap.size v (from16 (sN s)).1 ∧ Below w.heap.size w w' := by
  obtain ⟨k, hk⟩ := Ev.rounds (rfrom16_ev s)
  exact (wicketref02_FromHex.calls k s _ _ _ w hk).mono fun e w' ⟨v, he, hR, hb⟩ => ⟨v, he, Own.of_R hR, hb⟩
set_option maxRecDepth 100000 in
set_option maxHeartbeats 2000000 in
theorem law_codes (p : List Nat) (s : ByteArray) (A : Option Addr) (n c : Nat) (w : World) (hn : n = p.length) (hm : n ≤ 1000000000) (hc : n ≤ c) (hpa : All 256 p) (hC : C8 w A p.length p) (hT : TabsP w) :
    Calls Tryd.prog 7 #[.slice A n c, .string s] w fun e w' => e = .returned (.bool true) ∧ Below w.heap.size w w' := by
  obtain ⟨T, hTx⟩ : ∃ T, T = txt (spell al64 (six p)) := ⟨_, rfl⟩
  obtain ⟨X, hX⟩ : ∃ X, X = txt (spell al16 (four p)) := ⟨_, rfl⟩
  obtain ⟨FS, hFS⟩ : ∃ r, r = from64 (sN s) := ⟨_, rfl⟩
  obtain ⟨GS, hGS⟩ : ∃ r, r = from16 (sN s) := ⟨_, rfl⟩
  have hlent : ∀ (V : World), Below w.heap.size w V → Calls Tryd.prog 13 #[.slice A n c] V fun e w' => ∃ v, e = .returned v ∧ Own w' V.heap.size v (p ++ marks) ∧ Below V.heap.size V w' := fun V hb => by
    subst hn; exact lent_any p A c V (by omega) hc (hC.below hb)
  have hkept : ∀ (V : World) (A' : Option Addr) (m c' : Nat), Below w.heap.size w V → m = n + 64 → C8 V A' m (p ++ marks) → m ≤ c' → Calls Tryd.prog 16 #[.slice A' m c', .slice A n c] V fun e w' => e = .returned (.bool true) ∧ Below V.heap.size V w' := fun V A' m c' hb h1 hC' hc' => by
    subst hn; exact kept_any p A' A m c' c V h1 (by omega) hc' hc hC' (hC.below hb)
  have hb64 : ∀ (V : World) (B : Option Addr) (d : Nat), n ≤ d → C8 V B n p → Calls Tryd.prog 33 #[.slice B n d] V fun e w' => e = .returned (.string T) ∧ Below V.heap.size V w' := fun V B d h2 h3 => by
    rw [hTx]; subst hn; exact tob64_any p B _ d V rfl (by omega) h2 hpa h3
  have hhex : ∀ (V : World) (B : Option Addr) (d : Nat), n ≤ d → C8 V B n p → Calls Tryd.prog 34 #[.slice B n d] V fun e w' => e = .returned (.string X) ∧ Below V.heap.size V w' := fun V B d h2 h3 => by
    rw [hX]; subst hn; exact tohex_any p B _ d V rfl (by omega) h2 hpa h3
  have rb64 : ∀ (V : World), Below w.heap.size w V → Calls Tryd.prog 26 #[.slice A n c] V fun e w' => e = .returned (.string T) ∧ Below V.heap.size V w' := fun V hb => by
    rw [hTx]; exact rtob64_any p A n c V hn (by omega) hc hpa (hC.below hb)
  have rhex : ∀ (V : World), Below w.heap.size w V → Calls Tryd.prog 27 #[.slice A n c] V fun e w' => e = .returned (.string X) ∧ Below V.heap.size V w' := fun V hb => by
    rw [hX]; exact rtohex_any p A n c V hn (by omega) hc hpa (hC.below hb)
  have hfS : ∀ V : World, Calls Tryd.prog 28 #[.string s] V fun e w' => ∃ v, e = .returned (.tuple #[v, .int .i64 (FS.2.1 : Int), .int .i64 (FS.2.2 : Int)]) ∧ Own w' V.heap.size v FS.1 ∧ Below V.heap.size V w' := fun V => by rw [hFS]; exact from64_any s V
  have hgS : ∀ V : World, Calls Tryd.prog 29 #[.string s] V fun e w' => ∃ v, e = .returned (.tuple #[v, .int .i64 (GS.2.1 : Int), .int .i64 (GS.2.2 : Int)]) ∧ Own w' V.heap.size v GS.1 ∧ Below V.heap.size V w' := fun V => by rw [hGS]; exact from16_any s V
  have rfS : ∀ V : World, Calls Tryd.prog 35 #[.string s] V fun e w' => ∃ v, e = .returned (.tuple #[v, .int .i64 (FS.2.1 : Int), .int .i64 (FS.2.2 : Int)]) ∧ Own w' V.heap.size v FS.1 ∧ Below V.heap.size V w' := fun V => by rw [hFS]; exact rfrom64_any s V
  have rgS : ∀ V : World, Calls Tryd.prog 36 #[.string s] V fun e w' => ∃ v, e = .returned (.tuple #[v, .int .i64 (GS.2.1 : Int), .int .i64 (GS.2.2 : Int)]) ∧ Own w' V.heap.size v GS.1 ∧ Below V.heap.size V w' := fun V => by rw [hGS]; exact rfrom16_any s V
  have hlive : ∀ (V : World), Below w.heap.size w V → Calls Tryd.prog 15 #[] V fun e w' => e = .returned (.bool true) ∧ Below V.heap.size V w' := fun V hb => live_any V (hT.below hb).1 (hT.below hb).2.1 (hT.below hb).2.2
  have HL := Lib.hid hlent; have HK := Lib.hid hkept; have HB64 := Lib.hid hb64; have HHEX := Lib.hid hhex; have RB64 := Lib.hid rb64; have RHEX := Lib.hid rhex; have HFS := Lib.hid hfS; have HGS := Lib.hid hgS; have RFS := Lib.hid rfS; have RGS := Lib.hid rgS; have HLIVE := Lib.hid hlive
  have HN := Lib.hid hn
  clear hlent hkept hb64 hhex rb64 rhex hfS hgS rfS rgS hlive hn hC hT hFS hGS hX hTx hpa
  have k0 : (0 : Int) ≤ (n : Int) := by omega
  go_enter Tryd.func7, Tryd.ntmps7
  go_wp2_with (first
    | (go_at_call 13; (with_reducible refine (HL.out _ (Below.refl _ _)).mono ?_); rintro e w1 ⟨v1, rfl, O1, hb1⟩
       obtain ⟨A1, c1, hv1, hc1, hC1⟩ := O1.arg
       have hn1 : (p ++ marks).length = n + 64 := by rw [List.length_append, marks_len, ← HN.out]
       rw [hn1] at hv1 hc1 hC1
       subst hv1
       have hpre : C8 w1 A1 n p := by
         have h := hC1.take n (by omega)
         rwa [List.take_left' HN.out.symm] at h
       have j1 : (n : Int) ≤ (c1 : Int) := by omega
       clear hn1 O1)
    | (go_at_call 33; (with_reducible refine (HB64.out _ _ _ (by omega) hpre).mono ?_); rintro e w2 ⟨rfl, hb2⟩
       have hb2' := hb1.trans (hb2.mono hb1.size)
       have hC2 := hC1.below hb2
       have hpre2 := hpre.below hb2
       clear hb2 hC1 hpre)
    | (go_at_call 26; (with_reducible refine (RB64.out _ hb2').mono ?_); rintro e w3 ⟨rfl, hb3⟩
       have hb3' := hb2'.trans (hb3.mono hb2'.size)
       have hC3 := hC2.below hb3
       have hpre3 := hpre2.below hb3
       clear hb3 hC2 hpre2 hb2')
    | (go_at_call 34; (with_reducible refine (HHEX.out _ _ _ (by omega) hpre3).mono ?_); rintro e w4 ⟨rfl, hb4⟩
       have hb4' := hb3'.trans (hb4.mono hb3'.size)
       have hC4 := hC3.below hb4
       clear hb4 hC3 hpre3 hb3')
    | (go_at_call 27; (with_reducible refine (RHEX.out _ hb4').mono ?_); rintro e w5 ⟨rfl, hb5⟩
       have hb5' := hb4'.trans (hb5.mono hb4'.size)
       have hC5 := hC4.below hb5
       clear hb5 hC4 hb4')
    | (go_at_call 16; (with_reducible refine (HK.out _ _ _ _ hb5' rfl hC5 hc1).mono ?_); rintro e w6 ⟨rfl, hb6⟩
       have hb6' := hb5'.trans (hb6.mono hb5'.size)
       clear hb6 hC5 hb5')
    | (go_at_call 28; (with_reducible refine (HFS.out _).mono ?_); rintro e w7 ⟨v7, rfl, O7, hb7⟩
       have hb7' := hb6'.trans (hb7.mono hb6'.size)
       obtain ⟨A7, n7, c7, hn7, hv7, hC7⟩ := O7.arg_
       subst hv7
       have HN7 := Lib.hid hn7
       clear hb7 hb6' hn7 hC7)
    | (go_at_call 35; (with_reducible refine (RFS.out _).mono ?_); rintro e w8 ⟨v8, rfl, O8, hb8⟩
       have hb8' := hb7'.trans (hb8.mono hb7'.size)
       have P8 := O7.below hb8
       obtain ⟨A8, n8, c8, hn8, hv8, hC8⟩ := O8.arg_
       subst hv8
       have HN8 := Lib.hid hn8
       clear hb8 hb7' O7 hn8 hC8)
    | (go_at_call 31; (with_reducible refine (num_any (FS.2.1 : Int) _).mono ?_); rintro e w9 ⟨rfl, hb9⟩
       have hb9' := hb8'.trans (hb9.mono hb8'.size)
       have P9 := P8.below hb9
       have O9 := O8.below hb9
       clear hb9 hb8' P8 O8)
    | (go_at_call 32; (with_reducible refine (same_self FS.1 _ _ _ _ _ _ _ HN7.out HN8.out (Own.c8 P9).2.1 (Own.c8 O9).2.1 (Own.c8 P9).2.2 (Own.c8 O9).2.2).mono ?_); rintro e w10 ⟨rfl, hb10⟩
       have hb10' := hb9'.trans (hb10.mono hb9'.size)
       clear hb10 hb9' P9 O9)
    | (go_at_call 29; (with_reducible refine (HGS.out _).mono ?_); rintro e w11 ⟨v11, rfl, O11, hb11⟩
       have hb11' := hb10'.trans (hb11.mono hb10'.size)
       obtain ⟨A11, n11, c11, hn11, hv11, hC11⟩ := O11.arg_
       subst hv11
       have HN11 := Lib.hid hn11
       clear hb11 hb10' hn11 hC11)
    | (go_at_call 36; (with_reducible refine (RGS.out _).mono ?_); rintro e w12 ⟨v12, rfl, O12, hb12⟩
       have hb12' := hb11'.trans (hb12.mono hb11'.size)
       have P12 := O11.below hb12
       obtain ⟨A12, n12, c12, hn12, hv12, hC12⟩ := O12.arg_
       subst hv12
       have HN12 := Lib.hid hn12
       clear hb12 hb11' O11 hn12 hC12)
    | (go_at_call 15; (with_reducible refine (HLIVE.out _ hb12').mono ?_); rintro e w13 ⟨rfl, hb13⟩
       have hb13' := hb12'.trans (hb13.mono hb12'.size)
       have P13 := P12.below hb13
       have O13 := O12.below hb13
       clear hb13 hb12' P12 O12)
    | (go_at_call 31; (with_reducible refine (num_any (GS.2.1 : Int) _).mono ?_); rintro e w14 ⟨rfl, hb14⟩
       have hb14' := hb13'.trans (hb14.mono hb13'.size)
       have P14 := P13.below hb14
       have O14 := O13.below hb14
       clear hb14 hb13' P13 O13)
    | (go_at_call 32; (with_reducible refine (same_self GS.1 _ _ _ _ _ _ _ HN11.out HN12.out (Own.c8 P14).2.1 (Own.c8 O14).2.1 (Own.c8 P14).2.2 (Own.c8 O14).2.2).mono ?_); rintro e w15 ⟨rfl, hb15⟩
       have hb15' := hb14'.trans (hb15.mono hb14'.size)
       clear hb15 hb14' P14 O14))
  go_ret
  exact ⟨rfl, hb15'⟩
theorem row_codes (a0 : List Int) (a1 : ByteArray) (o0 : a0.length * 1 ≤ 140737488351232 ∧ ∀ y, y ∈ a0 → (Lit.int .u8 y).wf = true) (o1 : a1.size ≤ 140737488351232)
    (hb : ((a0.map fun y => 1).sum + 1) + (a1.size + 1) ≤ 1048576) (W : World) (A0 : Option Addr) (c0 : Nat)
    (hr0 : Kd.C (Kd.int .u8) W A0 a0.length a0) (hc0 : a0.length ≤ c0) (hT : TabsP W) :
    Calls Tryd.prog 7 #[.slice A0 a0.length c0, .string a1] W fun e w' => e = .returned (.bool true) ∧ Below W.heap.size W w' := by
  obtain ⟨h1, h2⟩ := bytes_of_ok o0.2
  rw [sum_ones] at hb
  have hl := toN_len a0
  exact law_codes (toN a0) a1 A0 a0.length c0 W hl.symm (by omega) hc0 h2 (by show Kd.C _ _ _ _ _; rw [h1, hl]; exact hr0) hT
end Go.Proofs.YtfedlgcpgfofjaaDoor.Sha
