/-
  DigestMacs: every Joined, Mac and Same is the document's; what is handed in stays.
-/
import Derived.Test.YtfedlgcpgfofjaaDoorDMacs
import Derived.Deep.DeepCutAuto
namespace Go.Proofs.YtfedlgcpgfofjaaDoor.Sha
open Go.RowKit Go.Proofs.YtfedlgcpgfofjaaDoorW.PrintWords Go.Proofs.YtfedlgcpgfofjaaDoor.PAll Go.Proofs.YtfedlgcpgfofjaaDoor.Plain
set_option linter.unusedVariables false
set_option linter.unusedSimpArgs false
theorem take_map_push (ps : List (List Nat)) (k : Nat) (p : List Nat) (h : ps[k]? = some p) (f : List Nat → List Nat) : (ps.take (k + 1)).map f = (ps.take k).map f ++ [f p] := by
  rw [List.take_add_one, h]
  simp
theorem all_of_flat {ps : List (List Nat)} {p : List Nat} {k : Nat} (h : ps[k]? = some p) : p.length ≤ (joinOf ps).length := by
  have := joinOf_le h
  omega
set_option maxRecDepth 100000 in
set_option maxHeartbeats 2000000 in
theorem law_macs (key : List Nat) (ps : List (List Nat)) (A : Option Addr) (kl c : Nat) (B : Option Addr) (n cb : Nat) (w : World) (hkl : kl = key.length) (hkm : kl ≤ 1000000000) (hkc : kl ≤ c) (hka : All 256 key) (hK : C8 w A key.length key)
    (hn : n = ps.length) (hmax : (joinOf ps).length ≤ 1000000000) (hpa : ∀ p ∈ ps, All 256 p) (hC : CP w B n ps) (hnb : n ≤ cb) (hT : Tabs w) :
    Calls Tryd.prog 9 #[.slice A kl c, .slice B n cb] w fun e w' => e = .returned (.bool true) ∧ Below w.heap.size w w' := by
  have hn9 : n ≤ 9223372036854775807 := hC.2.1
  have hfj := parts_le ps
  obtain ⟨D, hD⟩ : ∃ D, D = macOf key ps := ⟨_, rfl⟩
  have hDl : D.length = 32 := by rw [hD]; exact sumOf_len _
  obtain ⟨E, hE⟩ : ∃ E, E = sumOf (joinOf ps) := ⟨_, rfl⟩
  have hEl : E.length = 32 := by rw [hE]; exact sumOf_len _
  have hnm : n ≤ 1000000000 := by omega
  have hlent : ∀ (V : World) (A' : Option Addr) (p : List Nat) (m c' : Nat), m = p.length → m ≤ 1000000000 → m ≤ c' → C8 V A' p.length p → Calls Tryd.prog 13 #[.slice A' m c'] V fun e w' => ∃ v, e = .returned v ∧ Own w' V.heap.size v (p ++ marks) ∧ Below V.heap.size V w' := fun V A' p m c' h1 h2 h3 h4 => by
    subst h1; exact lent_any p A' c' V (by omega) h3 h4
  have hkept : ∀ (V : World) (A' A'' : Option Addr) (p : List Nat) (m m' c' c'' : Nat), m = p.length + 64 → m' = p.length → p.length ≤ 1000000000 → m ≤ c' → m' ≤ c'' → C8 V A' m (p ++ marks) → C8 V A'' p.length p → Calls Tryd.prog 16 #[.slice A' m c', .slice A'' m' c''] V fun e w' => e = .returned (.bool true) ∧ Below V.heap.size V w' := fun V A' A'' p m m' c' c'' h1 h2 h3 h4 h5 h6 h7 => by
    subst h2; exact kept_any p A' A'' m c' c'' V h1 (by omega) h4 h5 h6 h7
  have hlive : ∀ (V : World), Below w.heap.size w V → Calls Tryd.prog 15 #[] V fun e w' => e = .returned (.bool true) ∧ Below V.heap.size V w' := fun V hb => live_any V (hT.below hb).1 (hT.below hb).2.2.1 (by have := (hT.below hb).2.2.2; omega)
  have hmac : ∀ (V : World), Below w.heap.size w V → ∀ (A' B' : Option Addr) (c' cb' : Nat), kl ≤ c' → C8 V A' kl key → CP V B' n ps → Calls Tryd.prog 23 #[.slice A' kl c', .slice B' n cb'] V fun e w' => e = .returned (.agg (D.map v8).toArray) ∧ Below V.heap.size V w' := fun V hb A' B' c' cb' h2 h3 h4 => by
    rw [hD]
    exact mac_any key ps A' kl c' B' n cb' V hkl (by omega) h2 hka (by rw [← hkl]; exact h3) hn (by omega) hpa h4 (hT.below hb).1 (hT.below hb).2.2.1 (by have := (hT.below hb).2.2.2; omega)
  have hjoin : ∀ (V : World), Below w.heap.size w V → ∀ (B' : Option Addr) (cb' : Nat), CP V B' n ps → Calls Tryd.prog 24 #[.slice B' n cb'] V fun e w' => e = .returned (.agg (E.map v8).toArray) ∧ Below V.heap.size V w' := fun V hb B' cb' h4 => by
    rw [hE]
    exact joined_any ps B' n cb' V hn (by omega) hpa h4 (hT.below hb).1 (hT.below hb).2.2.1 (by have := (hT.below hb).2.2.2; omega)
  have rmac : ∀ (V : World), Below w.heap.size w V → Calls Tryd.prog 38 #[.slice A kl c, .slice B n cb] V fun e w' => e = .returned (.agg (D.map v8).toArray) ∧ Below V.heap.size V w' := fun V hb => by
    rw [hD]
    exact rmac_any key ps A kl c B n cb V hkl (by omega) hka (hK.below hb) hn (by omega) hpa (hC.below hb) (hT.below hb).2.1 (hT.below hb).2.2.2
  have rjoin : ∀ (V : World), Below w.heap.size w V → Calls Tryd.prog 39 #[.slice B n cb] V fun e w' => e = .returned (.agg (E.map v8).toArray) ∧ Below V.heap.size V w' := fun V hb => by
    rw [hE]
    exact rjoined_any ps B n cb V hn (by omega) hpa (hC.below hb) (hT.below hb).2.1 (hT.below hb).2.2.2
  have heq : ∀ (F : List Nat), F.length = 32 → ∀ V : World, (binOp .eql 24 (.agg (F.map v8).toArray) (.agg (F.map v8).toArray)).run Tryd.prog V = .ok (.bool true) V := fun F hF V => by
    have h := run_eql24 F F hF hF V
    rwa [decide_eq_true rfl] at h
  have heqD := heq D hDl
  have heqE := heq E hEl
  clear heq
  have HLENT := Lib.hid hlent; have HKEPT := Lib.hid hkept; have HLIVE := Lib.hid hlive; have HMAC := Lib.hid hmac; have HJOIN := Lib.hid hjoin; have RMAC := Lib.hid rmac; have RJOIN := Lib.hid rjoin
  have HN := Lib.hid hn; have HC := Lib.hid hC; have HM := Lib.hid hmax; have HA := Lib.hid hpa; have HK := Lib.hid hK; have HKN := Lib.hid hkl; have HKEY := Lib.hid hka; have HDl := Lib.hid hDl; have HEl := Lib.hid hEl
  clear hlent hkept hlive hmac hjoin rmac rjoin hn hC hmax hpa hK hkl hka hDl hEl hD hE hT
  have k0 : (0 : Int) ≤ (kl : Int) := by omega
  go_enter Tryd.func9, Tryd.ntmps9
  go_wp2
  go_loopw [5, 6, 7, 8] (fun vF vL v _ wr => ∃ (j : Nat) (fs ls : List Value), j ≤ n ∧ v = .int .i64 (j : Int) ∧ OwnP wr w.heap.size vF fs ∧ OwnP wr w.heap.size vL ls ∧ Apart vF vL ∧ Els wr w.heap.size fs ((ps.take j).map (· ++ marks)) ∧ Els wr w.heap.size ls (ps.take j) ∧ Below w.heap.size w wr) (fun _ _ v _ _ => n - (intOf v).toNat)
  case atStart => exact ⟨0, [], [], by omega, rfl, OwnP.nil _ _, OwnP.nil _ _, Apart.nil_left _, Els.nil _ _, Els.nil _ _, Below.refl _ _⟩
  case round =>
    obtain ⟨j, fs, ls, hj, rfl, OF, OL, fl, EF, EL, hb⟩ := hrel
    have hs := hb.size
    by_cases hlt : j < n
    · obtain ⟨ad, p, Aj, cj, hA, hp, hcell, hle, hCj⟩ := HC.out.at_ j hlt
      subst hA
      have hpm := all_of_flat hp
      have hmax := HM.out
      have hfl : fs.length ≤ 1000000000 := by have := EF.1; rw [List.length_map, List.length_take] at this; omega
      have hll : ls.length ≤ 1000000000 := by have := EL.1; rw [List.length_take] at this; omega
      have nF := take_map_push ps j p hp (· ++ marks)
      have nL : ps.take (j + 1) = ps.take j ++ [p] := by rw [List.take_add_one, hp]; rfl
      obtain ⟨pl, hpl0⟩ : ∃ pl, pl = p.length := ⟨_, rfl⟩
      rw [← hpl0] at hcell hle hpm
      have plm : pl ≤ 1000000000 := by omega
      have NF := Lib.hid nF; have NL := Lib.hid nL; have HPL := Lib.hid hpl0; have HCj := Lib.hid hCj; have HCL := Lib.hid hcell
      have HOF := Lib.hid OF; have HOL := Lib.hid OL; have HEF := Lib.hid EF; have HEL := Lib.hid EL
      have c0 : wr.cell? (ad.add j) = some (.slice Aj pl cj) := (hb.cell (World.block_lt_of_cell? w _ hcell)).trans hcell
      have j0 : (0 : Int) ≤ (j : Int) := by omega
      have j1 : (j : Int) < (n : Int) := by omega
      have p0 : (0 : Int) ≤ (pl : Int) := by omega
      clear hCj hp hmax hcell nF nL hpl0 OF OL EF EL hpm
      go_wp2_with (first
        | (go_at_call 13; (with_reducible refine (HLENT.out _ _ _ _ _ HPL.out plm hle (HCj.out.below hb)).mono ?_); rintro e w2 ⟨v2, rfl, O2, hb2⟩
           have hb2' := hb.trans (hb2.mono hs)
           have OF2 := HOF.out.below hb2
           have OL2 := HOL.out.below hb2
           have EF2 := HEF.out.below hb2
           have EL2 := HEL.out.below hb2
           have Ow2 := O2.weak hs
           have c2 : w2.cell? (ad.add j) = some (.slice Aj pl cj) := (hb2'.cell (World.block_lt_of_cell? w _ HCL.out)).trans HCL.out
           obtain ⟨A2, n2, cc2, hn2, hv2, hC2⟩ := Ow2.arg_
           subst hv2
           have hn2' : n2 = pl + 64 := by rw [hn2, List.length_append, marks_len, ← HPL.out]
           clear hn2
           subst hn2'
           have q1 : (pl : Int) ≤ (cc2 : Int) := by have := (Own.c8 Ow2).2.1; omega
           clear hb2 O2 hC2 c0)
        | (at_builtin; refine wpl_appendP rfl _ _ _ rfl info_slice Tryd.underlying35 w.heap.size _ fs rfl (OF2.alloc _) _ _ _ rfl rfl ((Blk.new w2 22 #[.slice A2 (pl + 64) cc2]).cell 0) hfl (by have := hb2'.size; simp; omega) ?_
           intro v3 w3 O3 G3 P3
           have hb3 := (hb2'.alloc hb2'.size _).grown G3 (by have := hb2'.size; simp; omega) (fun k hk => (OF2.lt k hk).1)
           have OL3 := (OL2.alloc _).far G3 fl.symm
           have fl3 := (fl.symm.growP (OL2.alloc _) (Nat.le_refl _) P3).symm
           have EF3 := (EF2.below ((Below.refl _ _).alloc (Nat.le_refl _) _)).far (OF2.alloc _) G3
           have EL3 := (EL2.below ((Below.refl _ _).alloc (Nat.le_refl _) _)).far (OF2.alloc _) G3
           have Ow3 := (Ow2.alloc _).far G3 (Ow2.apartP OF2)
           have c3 : w3.cell? (ad.add j) = some (.slice Aj pl cj) := (hb3.cell (World.block_lt_of_cell? w _ HCL.out)).trans HCL.out
           have HO3 := Lib.hid O3
           clear G3 P3 OF2 OL2 EF2 EL2 Ow2 c2 hb2' O3)
        | (at_builtin; refine wpl_appendP rfl _ _ _ rfl info_slice Tryd.underlying35 w.heap.size _ ls rfl (OL3.alloc _) _ _ _ rfl rfl ((Blk.new w3 22 #[.slice A2 pl cc2]).cell 0) hll (by have := hb3.size; simp; omega) ?_
           intro v4 w4 O4 G4 P4
           have hb4 := (hb3.alloc hb3.size _).grown G4 (by have := hb3.size; simp; omega) (fun k hk => (OL3.lt k hk).1)
           have OF4 := (HO3.out.alloc _).far G4 fl3
           have fl4 := fl3.growP (HO3.out.alloc _) (Nat.le_refl _) P4
           have EF4 := (EF3.below ((Below.refl _ _).alloc (Nat.le_refl _) _)).far (OL3.alloc _) G4
           have EL4 := (EL3.below ((Below.refl _ _).alloc (Nat.le_refl _) _)).far (OL3.alloc _) G4
           have Ow4 := (Ow3.alloc _).far G4 (Ow3.apartP OL3)
           clear G4 P4 EF3 EL3 Ow3 c3 hb3 OL3 HO3))
      have Ot4 : Own w4 w.heap.size (.slice A2 pl cc2) p := by
        have h := Own.take Ow4 pl (by omega)
        rwa [List.take_left' HPL.out.symm] at h
      go_roundw
      case rel => exact ⟨j + 1, _, _, by omega, by go_num, OF4, O4, fl4, by rw [NF.out]; exact EF4.push Ow4, by rw [NL.out]; exact EL4.push Ot4, hb4⟩
      case measure => simp [intOf]; omega
    · have t0 : ¬ ((j : Int) < (n : Int)) := by omega
      have hjn : j = ps.length := by have := HN.out; omega
      have e1 : ps.take j = ps := by rw [hjn, List.take_length]
      rw [e1] at EF EL
      obtain ⟨AF, cF, hvF, hcF⟩ := OF.form_
      obtain ⟨AL, cL, hvL, hcL⟩ := OL.form_
      have hnF : fs.length = n := by rw [EF.1, List.length_map, HN.out]
      have hnL : ls.length = n := by rw [EL.1, HN.out]
      rw [hnF] at hvF hcF
      rw [hnL] at hvL hcL
      subst hvF hvL
      have CF := (CP.of_rows OF EF).2
      have CL := (CP.of_rows OL EL).2
      clear OF OL EF EL fl hnF hnL e1 hjn hj
      have HCF := Lib.hid CF; have HCL := Lib.hid CL
      clear CF CL
      go_wp2_with (first
        | (go_at_call 13; (with_reducible refine (HLENT.out _ _ _ _ _ HKN.out hkm hkc (HK.out.below hb)).mono ?_); rintro e w2 ⟨v2, rfl, O2, hb2⟩
           have hb2' := hb.trans (hb2.mono hs)
           have CL2 := HCL.out.below hb2
           have CF2 := HCF.out.below hb2
           obtain ⟨A2, n2, cc2, hn2, hv2, hC2⟩ := O2.arg_
           subst hv2
           have hn2' : n2 = kl + 64 := by rw [hn2, List.length_append, marks_len, ← HKN.out]
           clear hn2
           subst hn2'
           have q1 : kl ≤ cc2 := by have := (Own.c8 O2).2.1; omega
           have q2 : (kl : Int) ≤ (cc2 : Int) := by omega
           have K2 : C8 w2 A2 kl key := by
             have h := (Own.c8 O2).2.2.take kl (by rw [List.length_append]; have := HKN.out; omega)
             rwa [List.take_left' HKN.out.symm] at h
           have hwb := hb.size
           clear hb2 hC2)
        | (go_at_call 23; (with_reducible refine (HMAC.out _ hb2' _ _ _ _ q1 K2 CL2).mono ?_); rintro e w3 ⟨rfl, hb3⟩
           have hb3' := hb2'.trans (hb3.mono hb2'.size)
           have CL3 := CL2.below hb3
           have CF3 := CF2.below hb3
           have K3 := K2.below hb3
           have O3 := O2.below hb3
           clear hb3 CL2 CF2 K2 O2 hb2')
        | (refine wpl_store rfl 24 _ _ rfl w3.heap.size 0 rfl 24 [] ((List.replicate 32 0).map v8) [] (D.map v8) rfl (by rw [List.nil_append, List.append_nil]; exact Blk.new w3 24 (c8 (List.replicate 32 0))) rfl (by rw [List.length_map, HDl.out]; rfl) (by rw [List.length_map, HDl.out]; kernel_rfl) (v8_one D) ?_; intro w4 B4 Q4
           have hb4 : Below w3.heap.size w3 w4 := Q4.below ((Below.refl _ _).alloc (Nat.le_refl _) _) (Nat.le_refl _)
           have hb4' := hb3'.trans (hb4.mono hb3'.size)
           have CL4 := CL3.below hb4
           have CF4 := CF3.below hb4
           have K4 := K3.below hb4
           have O4 := O3.below hb4
           clear hb4 CL3 CF3 K3 O3 hb3' Q4)
        | (go_at_call 24; (with_reducible refine (HJOIN.out _ hb4' _ _ CL4).mono ?_); rintro e w5 ⟨rfl, hb5⟩
           have hb5' := hb4'.trans (hb5.mono hb4'.size)
           have CL5 := CL4.below hb5
           have CF5 := CF4.below hb5
           have K5 := K4.below hb5
           have O5 := O4.below hb5
           have B5 := B4.below hb5 B4.lt
           clear hb5 CL4 CF4 K4 O4 hb4' B4)
        | (refine wpl_store rfl 24 _ _ rfl w5.heap.size 0 rfl 24 [] ((List.replicate 32 0).map v8) [] (E.map v8) rfl (by rw [List.nil_append, List.append_nil]; exact Blk.new w5 24 (c8 (List.replicate 32 0))) rfl (by rw [List.length_map, HEl.out]; rfl) (by rw [List.length_map, HEl.out]; kernel_rfl) (v8_one E) ?_; intro w6 B6 Q6
           have hb6 : Below w5.heap.size w5 w6 := Q6.below ((Below.refl _ _).alloc (Nat.le_refl _) _) (Nat.le_refl _)
           have hb6' := hb5'.trans (hb6.mono hb5'.size)
           have CL6 := CL5.below hb6
           have CF6 := CF5.below hb6
           have K6 := K5.below hb6
           have O6 := O5.below hb6
           have BD6 := B5.below hb6 B5.lt
           clear hb6 CL5 CF5 K5 O5 hb5' B5 Q6))
      have HCF := Lib.hid CF6; have HCL := Lib.hid CL6; have HK6 := Lib.hid K6; have HO6 := Lib.hid O6; have HBD := Lib.hid BD6; have HBE := Lib.hid B6
      clear CF6 CL6 K6 O6 BD6 B6
      go_loopw [12] (fun v wr => ∃ j : Nat, j ≤ n ∧ v = .int .i64 (j : Int) ∧ Below w6.heap.size w6 wr) (fun v _ => n - (intOf v).toNat)
      case atStart => exact ⟨0, by omega, rfl, Below.refl _ _⟩
      case round =>
        clear hb hs t0
        obtain ⟨j, hj, rfl, hb⟩ := hrel
        have hs := hb.size
        have hbw := hb6'.trans (hb.mono hb6'.size)
        by_cases hlt : j < n
        · obtain ⟨ad, p, Aj, cj, hA, hp, hcell, hle, hCj⟩ := HC.out.at_ j hlt
          obtain ⟨adL, pL, Al, cl, hAL, hpL, hcellL, hleL, hCl⟩ := HCL.out.at_ j hlt
          obtain ⟨adF, pF, Af, cf, hAF, hpF, hcellF, hleF, hCf⟩ := HCF.out.at_ j hlt
          obtain rfl := Option.some.inj (hp.symm.trans hpL)
          rw [List.getElem?_map, hp] at hpF
          obtain rfl := Option.some.inj hpF
          subst hA hAL hAF
          have hpa : All 256 p := HA.out p (List.mem_of_getElem? hp)
          have hpm := all_of_flat hp
          have hmax := HM.out
          have hl64 : (p ++ marks).length = p.length + 64 := by rw [List.length_append, marks_len]
          rw [hl64] at hcellF hleF hCf
          obtain ⟨pl, hpl0⟩ : ∃ pl, pl = p.length := ⟨_, rfl⟩
          rw [← hpl0] at hcell hle hpm hcellL hleL hcellF hleF hCf
          have plm : pl ≤ 1000000000 := by omega
          have cP : wr.cell? (ad.add j) = some (.slice Aj pl cj) := (hbw.cell (World.block_lt_of_cell? w _ hcell)).trans hcell
          have cLc : wr.cell? (adL.add j) = some (.slice Al pl cl) := (hb.cell (World.block_lt_of_cell? w6 _ hcellL)).trans hcellL
          have cFc : wr.cell? (adF.add j) = some (.slice Af (pl + 64) cf) := (hb.cell (World.block_lt_of_cell? w6 _ hcellF)).trans hcellF
          have hCj2 := hCj.below hbw
          have hCl2 := hCl.below hb
          have hCf2 := hCf.below hb
          have j0 : (0 : Int) ≤ (j : Int) := by omega
          have j1 : (j : Int) < (n : Int) := by omega
          have HPL := Lib.hid hpl0; have HPA := Lib.hid hpa; have HCJ := Lib.hid hCj2; have HCLL := Lib.hid hCl2; have HCFF := Lib.hid hCf2
          have l1 : (ad.add j).block < wr.heap.size := World.block_lt_of_cell? wr _ cP
          have l2 : (adL.add j).block < wr.heap.size := World.block_lt_of_cell? wr _ cLc
          have l3 : (adF.add j).block < wr.heap.size := World.block_lt_of_cell? wr _ cFc
          clear hCj hCl hCf hCj2 hCl2 hCf2 hpl0 hpa hpm hmax hl64 hcell hcellL hcellF hp hpL hpF
          go_upto_region 14 with fail
          go_region_held3 (fun w' => w'.cell? (adF.add j) = some (.slice Af (pl + 64) cf) ∧ w'.cell? (ad.add j) = some (.slice Aj pl cj) ∧ w'.cell? (adL.add j) = some (.slice Al pl cl)) (first | assumption | go_keep)
            (first
              | (go_at_call 16; refine (HKEPT.out _ Af Aj p (pl + 64) pl cf cj (by rw [HPL.out]) HPL.out (by rw [← HPL.out]; exact plm) hleF hle (by exact HCFF.out) (by exact HCJ.out)).mono ?_; rintro e w7 ⟨rfl, hb7⟩
                 have hb7w : Below wr.heap.size wr w7 := ⟨hb7.os, hb7.tape, hb7.output, hb7.size, hb7.block⟩
                 have cP7 : w7.cell? (ad.add j) = some (.slice Aj pl cj) := (hb7w.cell l1).trans cP
                 have cL7 : w7.cell? (adL.add j) = some (.slice Al pl cl) := (hb7w.cell l2).trans cLc
                 have cF7 : w7.cell? (adF.add j) = some (.slice Af (pl + 64) cf) := (hb7w.cell l3).trans cFc
                 have CJ7 := HCJ.out.below hb7w
                 have CL7 := HCLL.out.below hb7w)
              | (go_at_call 32; refine (eqs_any p p Al Aj pl pl cl cj _ HPL.out HPL.out hleL hle HPA.out HPA.out CL7 CJ7).mono ?_; rintro e w8 ⟨rfl, hb8⟩
                 have hb8w : Below w7.heap.size w7 w8 := ⟨hb8.os, hb8.tape, hb8.output, hb8.size, hb8.block⟩
                 have cP8 : w8.cell? (ad.add j) = some (.slice Aj pl cj) := (hb8w.cell (World.block_lt_of_cell? w7 _ cP7)).trans cP7
                 have cL8 : w8.cell? (adL.add j) = some (.slice Al pl cl) := (hb8w.cell (World.block_lt_of_cell? w7 _ cL7)).trans cL7
                 have cF8 : w8.cell? (adF.add j) = some (.slice Af (pl + 64) cf) := (hb8w.cell (World.block_lt_of_cell? w7 _ cF7)).trans cF7
                 have CJ8 := CJ7.below hb8w
                 have CL8 := CL7.below hb8w
                 have hb8' := (hb.trans (hb7w.mono hs)).trans (hb8w.mono (Nat.le_trans hs hb7w.size))))
          have K8 := HK6.out.below hb8'
          have hbw8 := hb6'.trans (hb8'.mono hb6'.size)
          have KK8 := HK.out.below hbw8
          have hKA := HKEY.out
          have m1 : (adL.add j).block < w8.heap.size := World.block_lt_of_cell? w8 _ cL8
          have m2 : (ad.add j).block < w8.heap.size := World.block_lt_of_cell? w8 _ cP8
          obtain ⟨b, hbb⟩ : ∃ b, b = decide (p = key) := ⟨_, rfl⟩
          have hS1 : ∀ V : World, C8 V Al p.length p → C8 V A2 key.length key → Calls Tryd.prog 37 #[.slice Al pl cl, .slice A2 kl cc2] V fun e w' => e = .returned (.bool b) ∧ Below V.heap.size V w' := fun V h1 h2 => by
            rw [hbb]; exact Same_any p key Al A2 pl kl cl cc2 V HPL.out HKN.out (by omega) hleL q1 HPA.out hKA h1 h2
          have hS2 : ∀ V : World, C8 V Aj p.length p → C8 V A key.length key → Calls Tryd.prog 32 #[.slice Aj pl cj, .slice A kl c] V fun e w' => e = .returned (.bool b) ∧ Below V.heap.size V w' := fun V h1 h2 => by
            rw [hbb]; exact eqs_any p key Aj A pl kl cj c V HPL.out HKN.out hle hkc HPA.out hKA h1 h2
          have hS3 : ∀ (V : World) (B' : Option Addr) (n' c' : Nat), C8 V Al p.length p → C8 V B' p.length p → n' = p.length → n' ≤ c' → Calls Tryd.prog 37 #[.slice Al pl cl, .slice B' n' c'] V fun e w' => e = .returned (.bool true) ∧ Below V.heap.size V w' := fun V B' n' c' h1 h2 h3 h4 => by
            have h := Same_any p p Al B' pl n' cl c' V HPL.out h3 (by omega) hleL h4 HPA.out HPA.out h1 h2
            rwa [decide_eq_true rfl] at h
          have S1 := Lib.hid hS1; have S2 := Lib.hid hS2; have S3 := Lib.hid hS3
          have K8' : Hid (C8 w8 A2 key.length key) := by show C8 _ _ _ _; rw [← HKN.out]; exact K8
          have hs8 := hb8'.size
          have HCJ8 := Lib.hid CJ8; have HCL8 := Lib.hid CL8; have HKK8 := Lib.hid KK8; have HB8 := Lib.hid hb8'; have HM1 := Lib.hid m1; have HM2 := Lib.hid m2; have HS8 := Lib.hid hs8
          clear hS1 hS2 hS3 hbb K8 hKA CJ8 CL8 KK8 hb8' m1 m2 hs8 l1 l2 l3 cP cLc cFc cP7 cL7 cF7 cF8 hb7 hb7w hb8 hb8w CJ7 CL7 hbw hbw8 hb hs
          cases b
          all_goals
            go_upto_region 16 with fail
            go_region_held3 (fun w' => w'.cell? (ad.add j) = some (.slice Aj pl cj) ∧ w'.cell? (adL.add j) = some (.slice Al pl cl)) (first | assumption | exact ⟨by assumption, by assumption⟩ | go_keep)
              (first
                | (go_at_call 37; have hchk := hb11'; refine (S3.out _ A11 n11 c11 (by exact CL11) (by exact HC11.out) HN11.out hle11).mono ?_; clear hchk; rintro e w12 ⟨rfl, hb12⟩
                   have hb12w : Below w11.heap.size w11 w12 := ⟨hb12.os, hb12.tape, hb12.output, hb12.size, hb12.block⟩
                   have cP12 : w12.cell? (ad.add j) = some (.slice Aj pl cj) := (hb12w.cell (World.block_lt_of_cell? w11 _ cP11)).trans cP11
                   have cL12 : w12.cell? (adL.add j) = some (.slice Al pl cl) := (hb12w.cell (World.block_lt_of_cell? w11 _ cL11)).trans cL11
                   have hb12' := hb11'.trans (hb12w.mono hb11'.size))
                | (go_at_call 32; refine (S2.out _ (by exact CJ9) (by exact KK9)).mono ?_; rintro e w10 ⟨rfl, hb10⟩
                   have hb10w : Below w9.heap.size w9 w10 := ⟨hb10.os, hb10.tape, hb10.output, hb10.size, hb10.block⟩
                   have cP10 : w10.cell? (ad.add j) = some (.slice Aj pl cj) := (hb10w.cell (World.block_lt_of_cell? w9 _ cP9)).trans cP9
                   have cL10 : w10.cell? (adL.add j) = some (.slice Al pl cl) := (hb10w.cell (World.block_lt_of_cell? w9 _ cL9)).trans cL9
                   have CJ10 := CJ9.below hb10w
                   have CL10 := CL9.below hb10w
                   have hb10' := (HB8.out.trans (hb9w.mono HS8.out)).trans (hb10w.mono (Nat.le_trans HS8.out hb9w.size)))
                | (have hchk := hb10'
                   with_reducible refine wpr_if ?hw ?_
                   case hw => (first | rfl | simp [Region.wanted, yielded])
                   refine wpr_append _ _ _ rfl info_byte Tryd.underlying22 w10.heap.size (.slice (some ⟨w10.heap.size, 0, none⟩) 0 0) [] rfl (Own.nil_alloc w10 _ _ rfl (Nat.le_refl _)) Aj cj pl p rfl HPL.out (CJ10.below ((Below.refl _ _).alloc (Nat.le_refl _) _)) (by rw [← HPL.out]; simp; omega) (by simp) ?_
                   intro v11 w11 O11 G11 P11
                   rw [List.nil_append] at O11
                   have hb11w : Below w10.heap.size w10 w11 := ((Below.refl _ _).alloc (Nat.le_refl _) _).grown G11 (by simp) (by simp [Value.ownBlock])
                   have cP11 : w11.cell? (ad.add j) = some (.slice Aj pl cj) := (hb11w.cell (World.block_lt_of_cell? w10 _ cP10)).trans cP10
                   have cL11 : w11.cell? (adL.add j) = some (.slice Al pl cl) := (hb11w.cell (World.block_lt_of_cell? w10 _ cL10)).trans cL10
                   have CL11 := CL10.below hb11w
                   obtain ⟨A11, n11, c11, hn11, hv11, hC11⟩ := O11.arg_
                   subst hv11
                   have hle11 := (Own.c8 O11).2.1
                   have HN11 := Lib.hid hn11
                   have HC11 := Lib.hid hC11
                   clear hn11 hC11 P11 G11 O11
                   have hb11' := hb10'.trans (hb11w.mono hb10'.size))
                | (go_at_call 37; have hchk := K8'; refine (S1.out _ (by exact HCL8.out) (by exact K8'.out)).mono ?_; clear hchk K8'; rintro e w9 ⟨rfl, hb9⟩
                   have hb9w : Below w8.heap.size w8 w9 := ⟨hb9.os, hb9.tape, hb9.output, hb9.size, hb9.block⟩
                   have cP9 : w9.cell? (ad.add j) = some (.slice Aj pl cj) := (hb9w.cell HM2.out).trans cP8
                   have cL9 : w9.cell? (adL.add j) = some (.slice Al pl cl) := (hb9w.cell HM1.out).trans cL8
                   have CJ9 := HCJ8.out.below hb9w
                   have CL9 := HCL8.out.below hb9w
                   have KK9 := HKK8.out.below hb9w))
            go_wp2
            go_roundw
            case rel => exact ⟨j + 1, by omega, by go_num, hb12'⟩
            case measure => simp [intOf]; omega
        · have t0 : ¬ ((j : Int) < (n : Int)) := by omega
          have hO6 := HO6.out.below hb
          have hKW := HK.out.below hbw
          have hBD : Blk wr w3.heap.size 24 ([] ++ D.map v8 ++ []).toArray := HBD.out.below hb HBD.out.lt
          have hBE : Blk wr w5.heap.size 24 ([] ++ E.map v8 ++ []).toArray := HBE.out.below hb HBE.out.lt
          have rD := range_of_blk hBD
          have rE := range_of_blk hBE
          simp only [List.length_nil] at rD rE
          have lD := hBD.lt
          have lE := hBE.lt
          have hle6 := (Own.c8 hO6).2.1
          have hC6 := (Own.c8 hO6).2.2
          have hle6' : kl + 64 ≤ cc2 := hle6
          have hCk : C8 wr A2 (kl + 64) (key ++ marks) := by
            have h := hC6
            rwa [List.length_append, marks_len, ← HKN.out] at h
          have HCk := Lib.hid hCk; have HKW := Lib.hid hKW; have HBW := Lib.hid hbw; have HS := Lib.hid hs
          have hu := Tryd.underlying24
          have hiD : (Tryd.prog.info? 24).map (·.size) = some (D.map v8).length := by rw [List.length_map, HDl.out]; kernel_rfl
          have hiE : (Tryd.prog.info? 24).map (·.size) = some (E.map v8).length := by rw [List.length_map, HEl.out]; kernel_rfl
          have hDl32 : (D.map v8).length = 32 := by rw [List.length_map, HDl.out]
          have hEl32 : (E.map v8).length = 32 := by rw [List.length_map, HEl.out]
          clear hBD hBE hO6 hKW hC6 hCk hbw hb hle6 hs hlt hj
          go_upto_region 18 with fail
          refine wp_region_noPanic ?_
          refine wp_region_held_drew (S := (fun w' => w'.rangeAt w3.heap.size 0 (D.map v8) ∧ w'.rangeAt w5.heap.size 0 (E.map v8))) (by kernel_rfl) ?_ (fun hHeld => ?_)
          · exact ⟨rD, rE⟩
          refine wpAnyH_ready (rs := [0]) (by kernel_rfl) (by simp) ?_
          refine AllReadyH.cons (o := _) rfl (fun K hK => ?_) AllReadyH.nil
          go_simp
          refine (HLIVE.out _ (by first | exact HBW.out | exact HBW.out.drew | exact below_drewN HBW.out _)).mono ?_
          rintro e w9 ⟨rfl, hb9⟩
          have hb9w : Below wr.heap.size wr w9 := ⟨hb9.os, hb9.tape, hb9.output, hb9.size, hb9.block⟩
          have rD9 : w9.rangeAt w3.heap.size 0 (D.map v8) := range_below rD hb9w lD
          have rE9 : w9.rangeAt w5.heap.size 0 (E.map v8) := range_below rE hb9w lE
          have hb9' := HBW.out.trans (hb9w.mono HBW.out.size)
          have C9 := HCk.out.below hb9w
          have K9 := HKW.out.below hb9w
          have lD9 := Nat.lt_of_lt_of_le lD hb9w.size
          have lE9 := Nat.lt_of_lt_of_le lE hb9w.size
          clear hb9
          refine hK.out _ _ ⟨rD9, rE9⟩ (fun hHeld => ?_)
          clear hK K
          try simp only [Act.put, List.setIfInBounds_toArray, List.set_cons_zero, List.set_cons_succ]
          refine wpAnyH_take (i := 1) (oi := _) (v := ?_) rfl (by kernel_rfl) (by kernel_rfl) (by kernel_rfl) (fun _ _ _ h => h) (Or.inl ⟨by rfl, ?_⟩) hHeld ?_
          rotate_left
          · intro w hSw
            go_simp
            all_goals (with_reducible rfl)
          try simp only [Act.put, List.setIfInBounds_toArray, List.set_cons_zero, List.set_cons_succ]
          refine wpAnyH_take (i := 2) (oi := _) (v := ?_) rfl (by kernel_rfl) (by kernel_rfl) (by kernel_rfl) (fun _ _ _ h => h) (Or.inl ⟨by rfl, ?_⟩) hHeld ?_
          rotate_left
          · intro w hSw
            go_simp
            all_goals (with_reducible rfl)
          try simp only [Act.put, List.setIfInBounds_toArray, List.set_cons_zero, List.set_cons_succ]
          refine wpAnyH_take (i := 3) (oi := _) (v := ?_) rfl (by kernel_rfl) (by kernel_rfl) (by kernel_rfl) (fun _ _ _ h => h) (Or.inl ⟨by rfl, ?_⟩) hHeld ?_
          rotate_left
          · intro w hSw
            go_simp
            all_goals (with_reducible rfl)
          try simp only [Act.put, List.setIfInBounds_toArray, List.set_cons_zero, List.set_cons_succ]
          refine wpAnyH_ready (rs := [4]) (by kernel_rfl) (by simp) ?_
          refine AllReadyH.cons (o := _) rfl (fun K hK => ?_) AllReadyH.nil
          go_simp
          refine (HKEPT.out _ A2 A key (kl + 64) kl cc2 c (by rw [HKN.out]) HKN.out (by rw [← HKN.out]; exact hkm) hle6' hkc (by exact C9) (by exact K9)).mono ?_
          rintro e w10 ⟨rfl, hb10⟩
          have hb10w : Below w9.heap.size w9 w10 := ⟨hb10.os, hb10.tape, hb10.output, hb10.size, hb10.block⟩
          have rD10 : w10.rangeAt w3.heap.size 0 (D.map v8) := range_below rD9 hb10w lD9
          have rE10 : w10.rangeAt w5.heap.size 0 (E.map v8) := range_below rE9 hb10w lE9
          have hb10' := hb9'.trans (hb10w.mono hb9'.size)
          have lD10 := Nat.lt_of_lt_of_le lD9 hb10w.size
          have lE10 := Nat.lt_of_lt_of_le lE9 hb10w.size
          clear hb10 C9 K9 hb9'
          refine hK.out _ _ ⟨rD10, rE10⟩ (fun hHeld => ?_)
          clear hK K
          try simp only [Act.put, List.setIfInBounds_toArray, List.set_cons_zero, List.set_cons_succ]
          refine wpAnyH_take (i := 5) (oi := _) (v := ?_) rfl (by kernel_rfl) (by kernel_rfl) (by kernel_rfl) (fun _ _ _ h => h) (Or.inl ⟨by rfl, ?_⟩) hHeld ?_
          rotate_left
          · intro w hSw
            go_simp
            all_goals (with_reducible rfl)
          try simp only [Act.put, List.setIfInBounds_toArray, List.set_cons_zero, List.set_cons_succ]
          refine wpAnyH_take (i := 6) (oi := _) (v := ?_) rfl (by kernel_rfl) (by kernel_rfl) (by kernel_rfl) (fun _ _ _ h => h) (Or.inl ⟨by rfl, ?_⟩) hHeld ?_
          rotate_left
          · intro w hSw
            go_simp
            all_goals (with_reducible rfl)
          try simp only [Act.put, List.setIfInBounds_toArray, List.set_cons_zero, List.set_cons_succ]
          refine wpAnyH_take (i := 7) (oi := _) (v := _) rfl (by kernel_rfl) (by kernel_rfl) (by kernel_rfl) (fun _ _ _ h => h) (yieldsIf_load_mid (by rfl) 24 _ rfl w3.heap.size 0 rfl (D.map v8) _ (fun w hSw => hSw.1) hu rfl hiD) hHeld ?_
          try simp only [Act.put, List.setIfInBounds_toArray, List.set_cons_zero, List.set_cons_succ]
          refine wpAnyH_take (i := 8) (oi := _) (v := ?_) rfl (by kernel_rfl) (by kernel_rfl) (by kernel_rfl) (fun _ _ _ h => h) (Or.inl ⟨by rfl, ?_⟩) hHeld ?_
          rotate_left
          · intro w hSw
            go_simp
            all_goals (with_reducible rfl)
          try simp only [Act.put, List.setIfInBounds_toArray, List.set_cons_zero, List.set_cons_succ]
          refine wpAnyH_take (i := 9) (oi := _) (v := ?_) rfl (by kernel_rfl) (by kernel_rfl) (by kernel_rfl) (fun _ _ _ h => h) (Or.inl ⟨by rfl, ?_⟩) hHeld ?_
          rotate_left
          · intro w hSw
            go_simp
            all_goals (with_reducible rfl)
          try simp only [Act.put, List.setIfInBounds_toArray, List.set_cons_zero, List.set_cons_succ]
          refine wpAnyH_ready (rs := [10]) (by kernel_rfl) (by simp) ?_
          refine AllReadyH.cons (o := _) rfl (fun K hK => ?_) AllReadyH.nil
          go_simp
          refine (RMAC.out _ (by exact hb10')).mono ?_
          rintro e w11 ⟨rfl, hb11⟩
          have hb11w : Below w10.heap.size w10 w11 := ⟨hb11.os, hb11.tape, hb11.output, hb11.size, hb11.block⟩
          have rD11 : w11.rangeAt w3.heap.size 0 (D.map v8) := range_below rD10 hb11w lD10
          have rE11 : w11.rangeAt w5.heap.size 0 (E.map v8) := range_below rE10 hb11w lE10
          have hb11' := hb10'.trans (hb11w.mono hb10'.size)
          have lD11 := Nat.lt_of_lt_of_le lD10 hb11w.size
          have lE11 := Nat.lt_of_lt_of_le lE10 hb11w.size
          clear hb11 hb10'
          refine hK.out _ _ ⟨rD11, rE11⟩ (fun hHeld => ?_)
          clear hK K
          try simp only [Act.put, List.setIfInBounds_toArray, List.set_cons_zero, List.set_cons_succ]
          refine wpAnyH_take (i := 11) (oi := _) (v := ?_) rfl (by kernel_rfl) (by kernel_rfl) (by kernel_rfl) (fun _ _ _ h => h) (Or.inl ⟨by rfl, ?_⟩) hHeld ?_
          rotate_left
          · intro w hSw
            go_simp
            all_goals (with_reducible rfl)
          try simp only [Act.put, List.setIfInBounds_toArray, List.set_cons_zero, List.set_cons_succ]
          refine wpAnyH_take (i := 12) (oi := _) (v := ?_) rfl (by kernel_rfl) (by kernel_rfl) (by kernel_rfl) (fun _ _ _ h => h) (Or.inl ⟨by rfl, ?_⟩) hHeld ?_
          rotate_left
          · intro w hSw
            go_simp
            all_goals (with_reducible rfl)
          try simp only [Act.put, List.setIfInBounds_toArray, List.set_cons_zero, List.set_cons_succ]
          refine wpAnyH_take (i := 13) (oi := _) (v := ?_) rfl (by kernel_rfl) (by kernel_rfl) (by kernel_rfl) (fun _ _ _ h => h) (Or.inl ⟨by rfl, ?_⟩) hHeld ?_
          rotate_left
          · intro w hSw
            go_simp
            all_goals (with_reducible rfl)
          try simp only [Act.put, List.setIfInBounds_toArray, List.set_cons_zero, List.set_cons_succ]
          refine wpAnyH_take (i := 14) (oi := _) (v := _) rfl (by kernel_rfl) (by kernel_rfl) (by kernel_rfl) (fun _ _ _ h => h) (yieldsIf_load_mid (by rfl) 24 _ rfl w5.heap.size 0 rfl (E.map v8) _ (fun w hSw => hSw.2) hu rfl hiE) hHeld ?_
          try simp only [Act.put, List.setIfInBounds_toArray, List.set_cons_zero, List.set_cons_succ]
          refine wpAnyH_take (i := 15) (oi := _) (v := ?_) rfl (by kernel_rfl) (by kernel_rfl) (by kernel_rfl) (fun _ _ _ h => h) (Or.inl ⟨by rfl, ?_⟩) hHeld ?_
          rotate_left
          · intro w hSw
            go_simp
            all_goals (with_reducible rfl)
          try simp only [Act.put, List.setIfInBounds_toArray, List.set_cons_zero, List.set_cons_succ]
          refine wpAnyH_ready (rs := [16]) (by kernel_rfl) (by simp) ?_
          refine AllReadyH.cons (o := _) rfl (fun K hK => ?_) AllReadyH.nil
          go_simp
          refine (RJOIN.out _ (by exact hb11')).mono ?_
          rintro e w12 ⟨rfl, hb12⟩
          have hb12w : Below w11.heap.size w11 w12 := ⟨hb12.os, hb12.tape, hb12.output, hb12.size, hb12.block⟩
          have rD12 : w12.rangeAt w3.heap.size 0 (D.map v8) := range_below rD11 hb12w lD11
          have rE12 : w12.rangeAt w5.heap.size 0 (E.map v8) := range_below rE11 hb12w lE11
          have hb12' := hb11'.trans (hb12w.mono hb11'.size)
          clear hb12
          refine hK.out _ _ ⟨rD12, rE12⟩ (fun hHeld => ?_)
          clear hK K
          try simp only [Act.put, List.setIfInBounds_toArray, List.set_cons_zero, List.set_cons_succ]
          refine wpAnyH_take (i := 17) (oi := _) (v := ?_) rfl (by kernel_rfl) (by kernel_rfl) (by kernel_rfl) (fun _ _ _ h => h) (Or.inl ⟨by rfl, ?_⟩) hHeld ?_
          rotate_left
          · intro w hSw
            go_simp
            all_goals (with_reducible rfl)
          try simp only [Act.put, List.setIfInBounds_toArray, List.set_cons_zero, List.set_cons_succ]
          refine wpAnyH_take (i := 18) (oi := _) (v := ?_) rfl (by kernel_rfl) (by kernel_rfl) (by kernel_rfl) (fun _ _ _ h => h) (Or.inl ⟨by rfl, ?_⟩) hHeld ?_
          rotate_left
          · intro w hSw
            go_simp
            all_goals (with_reducible rfl)
          try simp only [Act.put, List.setIfInBounds_toArray, List.set_cons_zero, List.set_cons_succ]
          refine wpAnyH_take (i := 19) (oi := _) (v := ?_) rfl (by kernel_rfl) (by kernel_rfl) (by kernel_rfl) (fun _ _ _ h => h) (Or.inl ⟨by rfl, ?_⟩) hHeld ?_
          rotate_left
          · intro w hSw
            go_simp
            all_goals (with_reducible rfl)
          try simp only [Act.put, List.setIfInBounds_toArray, List.set_cons_zero, List.set_cons_succ]
          refine wpAnyH_done (by kernel_rfl) ?_ _
          refine NoPanic.normal ?_
          go_wp2
          go_ret
          exact ⟨rfl, by first | exact hb12' | exact hb12'.drew | exact below_drewN hb12' _⟩
theorem parts_of_okM {a : List (List Int)} (o : ∀ y, y ∈ a → y.length * 1 ≤ 140737488351232 ∧ ∀ z, z ∈ y → (Lit.int .u8 z).wf = true) : (a.map toN).map toI = a ∧ ∀ p ∈ a.map toN, All 256 p := by
  refine ⟨?_, fun p hp => ?_⟩
  · rw [List.map_map]
    conv => rhs; rw [← List.map_id a]
    exact List.map_congr_left fun x hx => (bytes_of_ok (o x hx).2).1
  · obtain ⟨x, hx, rfl⟩ := List.mem_map.1 hp
    exact (bytes_of_ok (o x hx).2).2
theorem join_smallM (a : List (List Int)) : (joinOf (a.map toN)).length ≤ 8 * (a.map fun y => ((y.map fun y => 1).sum + 1)).sum := by
  induction a with
  | nil => simp [joinOf]
  | cons p a ih =>
    have e : joinOf ((p :: a).map toN) = (eight (toN p).length ++ toN p) ++ joinOf (a.map toN) := rfl
    have h1 := sum_ones p
    rw [e, List.map_cons, List.sum_cons, List.length_append, List.length_append, eight_len, toN_len]
    omega
theorem row_macs (a0 : List Int) (a1 : List (List Int)) (o0 : a0.length * 1 ≤ 140737488351232 ∧ ∀ y, y ∈ a0 → (Lit.int .u8 y).wf = true) (o1 : a1.length * 24 ≤ 140737488351232 ∧ ∀ y, y ∈ a1 → y.length * 1 ≤ 140737488351232 ∧ ∀ z, z ∈ y → (Lit.int .u8 z).wf = true)
    (hb : ((a0.map fun y => 1).sum + 1) + ((a1.map fun y => ((y.map fun y => 1).sum + 1)).sum + 1) ≤ 1048576) (W : World) (A0 : Option Addr) (c0 : Nat) (A1 : Option Addr) (c1 : Nat)
    (hr0 : Kd.C (Kd.int .u8) W A0 a0.length a0) (hc0 : a0.length ≤ c0) (hr1 : Kd.C (Kd.slice 5 (Kd.int .u8)) W A1 a1.length a1) (hc1 : a1.length ≤ c1) (hT : Tabs W) :
    Calls Tryd.prog 9 #[.slice A0 a0.length c0, .slice A1 a1.length c1] W fun e w' => e = .returned (.bool true) ∧ Below W.heap.size W w' := by
  obtain ⟨h1, h2⟩ := bytes_of_ok o0.2
  obtain ⟨h3, h4⟩ := parts_of_okM o1.2
  rw [sum_ones] at hb
  have hl := toN_len a0
  have hj := join_smallM a1
  exact law_macs (toN a0) (a1.map toN) A0 a0.length c0 A1 a1.length c1 W hl.symm (by omega) hc0 h2 (by show Kd.C _ _ _ _ _; rw [h1, hl]; exact hr0) (by rw [List.length_map]) (by omega) h4 (by show Kd.C _ _ _ _ _; rw [h3]; exact hr1) hc1 hT
end Go.Proofs.YtfedlgcpgfofjaaDoor.Sha
