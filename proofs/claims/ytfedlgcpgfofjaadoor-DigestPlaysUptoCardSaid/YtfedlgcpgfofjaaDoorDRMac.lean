/-
  The reference's Mac and Joined: what the calls do, walked.
-/
import Derived.Test.YtfedlgcpgfofjaaDoorDBase3
import Derived.Test.YtfedlgcpgfofjaaDoorDMac
namespace Go.Proofs.YtfedlgcpgfofjaaDoor.Sha
open Go.RowKit Go.Proofs.YtfedlgcpgfofjaaDoorW.PrintWords
set_option linter.unusedVariables false
theorem rsum_to (p D : List Nat) (hD : sumOf p = D) (A : Option Addr) (n c : Nat) (w : World) (hn : n = p.length) (hp : n ≤ 100000000000000) (hpa : All 256 p) (hC : C8 w A p.length p) (ht : Tab2 w) (h2 : 2 < w.heap.size) :
    Calls Tryd.prog 17 #[.slice A n c] w fun e w' => e = .returned (.agg (D.map v8).toArray) ∧ Below w.heap.size w w' := by
  subst hD hn
  exact rsum_any p A c w hp hpa hC ht h2
set_option maxRecDepth 100000 in
set_option maxHeartbeats 2000000 in
theorem rmac_any (key : List Nat) (ps : List (List Nat)) (A : Option Addr) (kl c : Nat) (B : Option Addr) (n cb : Nat) (w : World) (hkl : kl = key.length) (hkm : kl ≤ 1000000000) (hka : All 256 key) (hK : C8 w A key.length key)
    (hn : n = ps.length) (hmax : ps.flatten.length ≤ 1000000000) (hpa : ∀ p ∈ ps, All 256 p) (hC : CP w B n ps) (ht : Tab2 w) (h2 : 2 < w.heap.size) :
    Calls Tryd.prog 38 #[.slice A kl c, .slice B n cb] w fun e w' => e = .returned (.agg ((macOf key ps).map v8).toArray) ∧ Below w.heap.size w w' := by
  have hn9 : n ≤ 9223372036854775807 := hC.2.1
  obtain ⟨K, hKb⟩ : ∃ K, K = keyBlk key := ⟨_, rfl⟩
  have hKl : K.length = 64 := by rw [hKb]; exact keyBlk_len key
  have hKa : All 256 K := by rw [hKb]; exact keyBlk_all hka
  obtain ⟨kk, hkk⟩ : ∃ kk, kk = keyOf key := ⟨_, rfl⟩
  have hkkl : kk.length ≤ 64 := by rw [hkk]; exact keyOf_len key
  have hKk : K = kk ++ List.replicate (64 - kk.length) 0 := by rw [hKb, hkk]; rfl
  obtain ⟨S, hS⟩ : ∃ S, S = sumOf key := ⟨_, rfl⟩
  have hSl : S.length = 32 := by rw [hS]; exact sumOf_len key
  have hbig : 64 < kl → kk = S := fun h => by rw [hkk, hS]; unfold keyOf; rw [if_pos (by omega)]
  have hsmall : kl ≤ 64 → kk = key := fun h => by rw [hkk]; unfold keyOf; rw [if_neg (by omega)]
  obtain ⟨I, hI⟩ : ∃ I, I = K.map (· ^^^ 54) ++ ps.flatten := ⟨_, rfl⟩
  obtain ⟨SI, hSI⟩ : ∃ SI, SI = sumOf I := ⟨_, rfl⟩
  have hSIl : SI.length = 32 := by rw [hSI]; exact sumOf_len _
  have hSIa : All 256 SI := by rw [hSI]; exact sumOf_all _
  obtain ⟨D, hD⟩ : ∃ D, D = macOf key ps := ⟨_, rfl⟩
  have hDs : sumOf (K.map (· ^^^ 92) ++ SI) = D := by rw [hD, hSI, hI, hKb]; rfl
  have hDl : D.length = 32 := by rw [← hDs]; exact sumOf_len _
  rw [← hD]
  have hsum : ∀ (p D : List Nat) (hD : sumOf p = D) (A : Option Addr) (n c : Nat) (V : World), Below w.heap.size w V → n = p.length → n ≤ 100000000000000 → All 256 p → C8 V A p.length p →
      Calls Tryd.prog 17 #[.slice A n c] V fun e w' => e = .returned (.agg (D.map v8).toArray) ∧ Below V.heap.size V w' := fun p D hD A n c V hb h1 h2' h4 h5 => rsum_to p D hD A n c V h1 h2' h4 h5 (ht.below hb h2) (Nat.lt_of_lt_of_le h2 hb.size)
  have HSUM := Lib.hid hsum
  have HN := Lib.hid hn; have HC := Lib.hid hC; have HM := Lib.hid hmax; have HA := Lib.hid hpa
  have HKL := Lib.hid hKl; have HKA := Lib.hid hKa; have HS := Lib.hid hS; have HSL := Lib.hid hSl; have HI := Lib.hid hI; have HSI := Lib.hid hSI; have HSIL := Lib.hid hSIl; have HSIA := Lib.hid hSIa; have HD := Lib.hid hDs; have HDl := Lib.hid hDl
  have HK := Lib.hid hK; have HKN := Lib.hid hkl; have HBIG := Lib.hid hbig; have HSM := Lib.hid hsmall; have HKK := Lib.hid hkkl; have HKB := Lib.hid hKk; have HKEY := Lib.hid hka
  clear hsum hn hC hmax hpa hKl hKa hS hSl hI hSI hSIl hSIa hD hDs hDl hK hkl hbig hsmall hKb hkkl hKk hkk ht hka
  have k0 : (0 : Int) ≤ (kl : Int) := by omega
  rcases Nat.lt_or_ge 64 kl with h64 | h64
  all_goals go_enter Tryd.func38, Tryd.ntmps38
  case' inl =>
    go_wp2_with (first
      | (at_builtin; refine wpl_append rfl _ _ _ rfl info_byte Tryd.underlying22 w.heap.size (.slice (some ⟨w.heap.size + 1, 0, none⟩) 0 0) [] rfl (Own.nil_alloc _ _ _ (by simp) (by omega)) A c kl key rfl HKN.out
          (HK.out.below (((Below.refl _ _).alloc (Nat.le_refl _) _).alloc (by simp) _)) (by rw [← HKN.out]; simp; omega) (by simp <;> omega) ?_
         intro v1 w1 O1 G1 P1
         rw [List.nil_append] at O1
         obtain ⟨A1, n1, c1, hn1, rfl, hC1⟩ := O1.arg_
         rw [← HKN.out] at hn1
         subst n1
         have hb1 : Below w.heap.size w w1 := (((Below.refl _ _).alloc (Nat.le_refl _) _).alloc (by simp) _).grown G1 (by simp <;> omega) (by simp [Value.ownBlock] <;> omega)
         have BZ1 : Blk w1 w.heap.size 24 (c8 (List.replicate 32 0)) := ((Blk.new w 24 (c8 (List.replicate 32 0))).alloc _).grown G1 (by simp [Value.ownBlock] <;> omega)
         clear G1 P1)
      | (go_at_call 17; (with_reducible refine (HSUM.out key S HS.out.symm _ _ _ _ hb1 HKN.out (by omega) HKEY.out hC1).mono ?_)
         rintro e w2 ⟨rfl, hb2⟩
         have hb2' := hb1.trans (hb2.mono hb1.size)
         have BZ2 := BZ1.below hb2 BZ1.lt
         clear hb2 BZ1)
      | (refine wpl_store rfl 24 _ _ rfl w2.heap.size 0 rfl 24 [] ((List.replicate 32 0).map v8) [] (S.map v8) rfl (by rw [List.nil_append, List.append_nil]; exact Blk.new w2 24 (c8 (List.replicate 32 0))) rfl (by rw [List.length_map, HSL.out]; rfl) (by rw [List.length_map, HSL.out]; kernel_rfl) (v8_one _) ?_; intro w3 B3 O3
         have hb3 : Below w.heap.size w w3 := O3.below (hb2'.alloc hb2'.size _) hb2'.size
         have BZ3 := (BZ2.alloc _).only O3 (by have := BZ2.lt; omega)
         have C3 : C8 w3 (some ⟨w2.heap.size, 0, none⟩) S.length S := by rw [HSL.out]; exact C8.of_Blk B3 32 HSL.out.symm (by omega)
         clear O3 hb2' B3 BZ2)
      | (at_builtin; refine wpl_append rfl _ _ _ rfl info_byte Tryd.underlying22 w.heap.size (.slice (some ⟨w3.heap.size, 0, none⟩) 0 0) [] rfl (Own.nil_alloc w3 _ _ rfl hb3.size) _ 32 32 S rfl HSL.out.symm (C3.below ((Below.refl _ _).alloc (Nat.le_refl _) _)) (by rw [HSL.out]; simp) (by have := hb3.size; simp; omega) ?_
         intro v5 w5 O5 G5 P5
         rw [List.nil_append, ← HBIG.out h64] at O5
         have hb5 : Below w.heap.size w w5 := (hb3.alloc hb3.size _).grown G5 (by have := hb3.size; simp; omega) (by have := hb3.size; simp [Value.ownBlock]; omega)
         have BZ5 := (BZ3.alloc _).grown G5 (by have := BZ3.lt; simp [Value.ownBlock]; omega)
         clear G5 P5 C3 O1 hC1 hb1 hb3 BZ3))
  case' inr =>
    have kq : ¬ ((64 : Int) < (kl : Int)) := by omega
    go_wp2_with (
      at_builtin; refine wpl_append rfl _ _ _ rfl info_byte Tryd.underlying22 w.heap.size (.slice (some ⟨w.heap.size + 1, 0, none⟩) 0 0) [] rfl (Own.nil_alloc _ _ _ (by simp) (by omega)) A c kl key rfl HKN.out
          (HK.out.below (((Below.refl _ _).alloc (Nat.le_refl _) _).alloc (by simp) _)) (by rw [← HKN.out]; simp; omega) (by simp <;> omega) ?_
      intro v5 w5 O5 G5 P5
      rw [List.nil_append] at O5
      have hb5 : Below w.heap.size w w5 := (((Below.refl _ _).alloc (Nat.le_refl _) _).alloc (by simp) _).grown G5 (by simp <;> omega) (by simp [Value.ownBlock] <;> omega)
      have BZ5 : Blk w5 w.heap.size 24 (c8 (List.replicate 32 0)) := ((Blk.new w 24 (c8 (List.replicate 32 0))).alloc _).grown G5 (by simp [Value.ownBlock] <;> omega)
      obtain ⟨A1, n1, c1, hn1, rfl, hC1⟩ := O5.arg_
      rw [← HKN.out] at hn1
      subst n1
      rw [← HSM.out h64] at O5
      clear G5 P5 hC1)
  all_goals
    have hlen : ∀ z, (kk ++ List.replicate z 0).length = kk.length + z := fun z => by simp
    have HLEN := Lib.hid hlen
    obtain ⟨kkl, hkkl⟩ : ∃ kkl, kkl = kk.length := ⟨_, rfl⟩
    have HKKL := Lib.hid hkkl
    have hk64 : kkl ≤ 64 := by rw [hkkl]; exact HKK.out
    clear hlen hkkl
    go_loopw [5] (fun v wr => ∃ z : Nat, z ≤ 64 - kkl ∧ Own wr w.heap.size v (kk ++ List.replicate z 0) ∧ Below w.heap.size w wr ∧ Blk wr w.heap.size 24 (c8 (List.replicate 32 0))) (fun v _ => 70 - slen v)
    case atStart => exact ⟨0, by omega, by rw [List.replicate_zero, List.append_nil]; exact O5, hb5, BZ5⟩
    case round =>
      clear O5 hb5 BZ5
      obtain ⟨z, hz, O, hb, BZ⟩ := hrel
      obtain ⟨A4, n4, c4, hn4, rfl, hC4⟩ := O.arg_
      rw [HLEN.out, ← HKKL.out] at hn4
      have j0 : (0 : Int) ≤ (n4 : Int) := by omega
      have j1 : (n4 : Int) ≤ 100 := by omega
      have hs := hb.size
      by_cases hlt : z < 64 - kkl
      · have t1 : ((n4 : Int) < 64) := by omega
        have HN := Lib.hid hn4
        have hO := Lib.hid O
        clear hn4 hC4
        go_wp2_with (at_builtin; refine wpl_append rfl _ _ _ rfl info_byte Tryd.underlying22 w.heap.size _ _ rfl (hO.out.alloc _) _ _ _ [0] rfl rfl (C8.one_ _ 0 0 rfl _ rfl) (by rw [HLEN.out, ← HKKL.out]; simp; omega) (by simp; omega) ?_; intro v3 w3 O3 G3 _)
        go_roundw
        case rel =>
          refine ⟨z + 1, by omega, ?_, (hb.alloc hs _).grown G3 (by simp; omega) (fun k hk => (hO.out.lt k hk).1), (BZ.alloc _).grown G3 (hO.out.ne BZ (by decide))⟩
          rw [List.replicate_succ', ← List.append_assoc]
          exact O3
        case measure =>
          obtain ⟨A5, n5, c5, hn5, rfl, _⟩ := O3.arg_
          have h1 := HN.out
          have h2 := HLEN.out z
          have h3 := HKKL.out
          simp only [slen_slice]
          rw [List.length_append, h2] at hn5
          simp at hn5
          omega
      · have t1 : ¬ ((n4 : Int) < 64) := by omega
        have hz2 : z = 64 - kkl := by omega
        have eK : kk ++ List.replicate z 0 = K := by rw [HKB.out, hz2, HKKL.out]
        rw [eK] at O hC4
        rw [HKL.out] at hC4
        have h64' : n4 = 64 := by omega
        subst h64'
        have HO := Lib.hid O
        clear eK hz2 hlt hz hn4 O
        go_wp2
        obtain ⟨b4, o4, rfl, _, _⟩ := hC4.at_ (by omega)
        clear hC4 t1 j0 j1
        go_loopw [7, 8, 9] (fun vi vo v wr => ∃ i : Nat, i ≤ 64 ∧ v = .int .i64 (i : Int) ∧ Own wr w.heap.size vi ((K.take i).map (· ^^^ 54)) ∧ Own wr w.heap.size vo ((K.take i).map (· ^^^ 92)) ∧ Own wr w.heap.size (.slice (some ⟨b4, o4, none⟩) 64 c4) K ∧
          Apart (.slice (some ⟨b4, o4, none⟩) 64 c4) vi ∧ Apart (.slice (some ⟨b4, o4, none⟩) 64 c4) vo ∧ Apart vo vi ∧ Below w.heap.size w wr ∧ Blk wr w.heap.size 24 (c8 (List.replicate 32 0))) (fun _ _ v _ => 64 - (intOf v).toNat)
        case atStart => exact ⟨0, by omega, rfl, Own.nil _ _, Own.nil _ _, HO.out, Apart.nil_right _, Apart.nil_right _, Apart.nil_right _, hb, BZ⟩
        case round =>
          clear HO hb hs BZ
          obtain ⟨i, hi, rfl, Oi, Oo, OK, ki, ko, oi, hb, BZ⟩ := hrel
          have hs := hb.size
          by_cases hlt : i < 64
          · obtain ⟨x, hx⟩ : ∃ x, K[i]? = some x := ⟨_, List.getElem?_eq_getElem (by rw [HKL.out]; exact hlt)⟩
            have hx2 : x < 256 := HKA.out x (List.mem_of_getElem? hx)
            have e54 : bits .xor .u8 (x : Int) 54 = ((x ^^^ 54 : Nat) : Int) := u8_xor x 54 hx2 (by decide)
            have e92 : bits .xor .u8 (x : Int) 92 = ((x ^^^ 92 : Nat) : Int) := u8_xor x 92 hx2 (by decide)
            have c0 := OK.cellAt hx
            obtain ⟨P, hP⟩ : ∃ P, P = (K.take i).map (· ^^^ 54) := ⟨_, rfl⟩
            obtain ⟨Q, hQ⟩ : ∃ Q, Q = (K.take i).map (· ^^^ 92) := ⟨_, rfl⟩
            have nP : (K.take (i + 1)).map (· ^^^ 54) = P ++ [x ^^^ 54] := by rw [List.take_add_one, hx, hP]; simp
            have nQ : (K.take (i + 1)).map (· ^^^ 92) = Q ++ [x ^^^ 92] := by rw [List.take_add_one, hx, hQ]; simp
            have lP : P.length = i := by rw [hP]; simp [HKL.out]; omega
            have lQ : Q.length = i := by rw [hQ]; simp [HKL.out]; omega
            rw [← hP] at Oi
            rw [← hQ] at Oo
            have NP := Lib.hid nP; have NQ := Lib.hid nQ; have E54 := Lib.hid e54; have E92 := Lib.hid e92; have LP := Lib.hid lP; have LQ := Lib.hid lQ; have HX := Lib.hid hx
            have HOi := Lib.hid Oi; have HOo := Lib.hid Oo; have HOK := Lib.hid OK
            have i0 : (0 : Int) ≤ (i : Int) := by omega
            have i1 : (i : Int) < 64 := by omega
            clear hP hQ nP nQ e54 e92 lP lQ hx Oi Oo OK
            go_wp2_with (first
              | (at_builtin; refine wpl_append rfl _ _ _ rfl info_byte Tryd.underlying22 w.heap.size _ P rfl (HOi.out.alloc _) _ _ _ [x ^^^ 54] rfl rfl (C8.one_ _ (x ^^^ 54) _ E54.out _ rfl) (by rw [LP.out]; simp; omega) (by simp; omega) ?_
                 intro v3 w3 O3 G3 P3
                 have OK3 := (HOK.out.alloc _).far G3 ki
                 have Oo3 := (HOo.out.alloc _).far G3 oi
                 have ki3 := ki.grow (HOK.out.alloc _) (Nat.le_refl _) P3
                 have oi3 := oi.grow (HOo.out.alloc _) (Nat.le_refl _) P3
                 have c3 := OK3.cellAt HX.out
                 have hb3 := (hb.alloc hs _).grown G3 (by simp; omega) (fun k hk => (HOi.out.lt k hk).1)
                 have hs3 := hb3.size
                 have BZ3 := (BZ.alloc _).grown G3 (HOi.out.ne BZ (by decide))
                 have H3 := Lib.hid O3
                 have HOK3 := Lib.hid OK3
                 have HOo3 := Lib.hid Oo3
                 clear O3 OK3 Oo3 G3 P3)
              | (at_builtin; refine wpl_append rfl _ _ _ rfl info_byte Tryd.underlying22 w.heap.size _ Q rfl (HOo3.out.alloc _) _ _ _ [x ^^^ 92] rfl rfl (C8.one_ _ (x ^^^ 92) _ E92.out _ rfl) (by rw [LQ.out]; simp; omega) (by simp; omega) ?_
                 intro v4 w4 O4 G4 P4
                 have OK4 := (HOK3.out.alloc _).far G4 ko
                 have Oi4 := (H3.out.alloc _).far G4 oi3.symm
                 have ko4 := ko.grow (HOK3.out.alloc _) (Nat.le_refl _) P4
                 have io4 := (oi3.symm.grow (H3.out.alloc _) (Nat.le_refl _) P4)
                 have hb4 := (hb3.alloc hs3 _).grown G4 (by simp; omega) (fun k hk => (HOo3.out.lt k hk).1)
                 have BZ4 := (BZ3.alloc _).grown G4 (HOo3.out.ne BZ3 (by decide))
                 clear G4 P4))
            go_roundw
            case rel => exact ⟨i + 1, by omega, by go_num, by rw [NP.out]; exact Oi4, by rw [NQ.out]; exact O4, OK4, ki3, ko4, io4.symm, hb4, BZ4⟩
            case measure => simp [intOf]; omega
          · have t1 : ¬ ((i : Int) < 64) := by omega
            have eK : K.take i = K := List.take_of_length_le (by rw [HKL.out]; omega)
            rw [eK] at Oi Oo
            obtain ⟨P, hP⟩ : ∃ P, P = K.map (· ^^^ 54) := ⟨_, rfl⟩
            obtain ⟨Q, hQ⟩ : ∃ Q, Q = K.map (· ^^^ 92) := ⟨_, rfl⟩
            have aP : All 256 P := by rw [hP]; exact xor_all _ _ HKA.out (by decide)
            have aQ : All 256 Q := by rw [hQ]; exact xor_all _ _ HKA.out (by decide)
            have lP : P.length = 64 := by rw [hP, List.length_map, HKL.out]
            have lQ : Q.length = 64 := by rw [hQ, List.length_map, HKL.out]
            rw [← hP] at Oi
            rw [← hQ] at Oo
            have HP := Lib.hid hP; have HQ := Lib.hid hQ; have LP := Lib.hid lP; have LQ := Lib.hid lQ; have AP := Lib.hid aP; have AQ := Lib.hid aQ
            have HOi := Lib.hid Oi; have HOo := Lib.hid Oo
            clear hP hQ eK lP lQ aP aQ OK ki ko Oi Oo hlt
            go_wp2
            go_loopw [7, 10] (fun vi v wr => ∃ j : Nat, j ≤ n ∧ v = .int .i64 (j : Int) ∧ Own wr w.heap.size vi (P ++ (ps.take j).flatten) ∧ Own wr w.heap.size u8 Q ∧ Apart u8 vi ∧ Below w.heap.size w wr ∧ Blk wr w.heap.size 24 (c8 (List.replicate 32 0))) (fun _ v _ => n - (intOf v).toNat)
            case atStart => exact ⟨0, by omega, rfl, by rw [List.take_zero, List.flatten_nil, List.append_nil]; exact HOi.out, HOo.out, oi, hb, BZ⟩
            case round =>
              clear HOi HOo hb hs oi t1 hi BZ
              obtain ⟨j, hj, rfl, Oi, Oo, oi, hb, BZ⟩ := hrel
              have hs := hb.size
              by_cases hlt : j < n
              · obtain ⟨ad, p, Aj, cj, hA, hp, hcell, hle, hCj⟩ := HC.out.at_ j hlt
                subst hA
                have hfl := flat_le hp
                have hmax := HM.out
                have nI : P ++ (ps.take (j + 1)).flatten = P ++ (ps.take j).flatten ++ p := by rw [flat_take hp, List.append_assoc]
                have lI : (P ++ (ps.take j).flatten).length + p.length ≤ 1000000064 := by rw [List.length_append, LP.out]; omega
                obtain ⟨IP, hIP⟩ : ∃ X, X = P ++ (ps.take j).flatten := ⟨_, rfl⟩
                rw [← hIP] at Oi nI lI
                obtain ⟨pl, hpl0⟩ : ∃ pl, pl = p.length := ⟨_, rfl⟩
                rw [← hpl0] at hcell hle lI
                have NI := Lib.hid nI; have LI := Lib.hid lI; have HPL := Lib.hid hpl0; have HCj := Lib.hid hCj; have HCL := Lib.hid hcell
                have HOi := Lib.hid Oi; have HOo := Lib.hid Oo
                have c0 : wr.cell? (ad.add j) = some (.slice Aj pl cj) := (hb.cell (World.block_lt_of_cell? w _ hcell)).trans hcell
                have j0 : (0 : Int) ≤ (j : Int) := by omega
                have j1 : (j : Int) < (n : Int) := by omega
                clear hCj hp hfl hmax hcell nI lI hpl0 hIP Oi Oo
                go_wp2_with (
                  at_builtin; refine wpl_append rfl _ _ _ rfl info_byte Tryd.underlying22 w.heap.size _ IP rfl HOi.out Aj cj pl p rfl HPL.out (HCj.out.below hb) (by rw [← HPL.out]; have := LI.out; omega) hs ?_
                  intro v3 w3 O3 G3 P3
                  have Oo3 := HOo.out.far G3 oi
                  have oi3 := oi.grow HOo.out (Nat.le_refl _) P3
                  have hb3 := hb.grown G3 hs (fun k hk => (HOi.out.lt k hk).1)
                  have BZ3 := BZ.grown G3 (HOi.out.ne BZ (by decide))
                  rw [← NI.out] at O3
                  clear G3 P3)
                go_roundw
                case rel => exact ⟨j + 1, by omega, by go_num, O3, Oo3, oi3, hb3, BZ3⟩
                case measure => simp [intOf]; omega
              · have t0 : ¬ ((j : Int) < (n : Int)) := by omega
                have hjn : j = ps.length := by have := HN.out; omega
                have e1 : P ++ (ps.take j).flatten = I := by rw [HI.out, HP.out, hjn, List.take_length]
                rw [e1] at Oi
                have aI : All 256 I := by rw [HI.out, ← HP.out]; exact AP.out.app (flat_all HA.out)
                have lI : I.length ≤ 1000000064 := by rw [HI.out, List.length_append, ← HP.out, LP.out]; have := HM.out; omega
                have AI := Lib.hid aI; have LI := Lib.hid lI
                have HOi := Lib.hid Oi; have HOo := Lib.hid Oo
                clear aI lI e1 hjn Oi Oo
                obtain ⟨Ai, ni, ci, hni, hvi, hCi⟩ := HOi.out.arg_
                subst hvi
                have HNI := Lib.hid hni; have HCI := Lib.hid hCi
                clear hni hCi
                go_wp2_with (first
                  | (go_at_call 17; (with_reducible refine (HSUM.out I SI HSI.out.symm _ _ _ _ hb HNI.out (by have := HNI.out; have := LI.out; omega) AI.out HCI.out).mono ?_)
                     rintro e w2 ⟨rfl, hb2⟩
                     have hb2' := hb.trans (hb2.mono hs)
                     have Oo2 := HOo.out.below hb2
                     have BZ2 := BZ.below hb2 BZ.lt
                     clear hb2)
                  | (refine wpl_store rfl 24 _ _ rfl w2.heap.size 0 rfl 24 [] ((List.replicate 32 0).map v8) [] (SI.map v8) rfl (by rw [List.nil_append, List.append_nil]; exact Blk.new w2 24 (c8 (List.replicate 32 0))) rfl (by rw [List.length_map, HSIL.out]; rfl) (by rw [List.length_map, HSIL.out]; kernel_rfl) (v8_one _) ?_; intro w13 B13 O13
                     have hb13 : Below w.heap.size w w13 := O13.below (hb2'.alloc hb2'.size _) hb2'.size
                     have Oo13 := Own.only_new Oo2 O13
                     have BZ13 := (BZ2.alloc _).only O13 (by have := BZ2.lt; omega)
                     have C13 : C8 w13 (some ⟨w2.heap.size, 0, none⟩) SI.length SI := by rw [HSIL.out]; exact C8.of_Blk B13 32 HSIL.out.symm (by omega)
                     clear O13 hb2' B13 Oo2 BZ2)
                  | (at_builtin; refine wpl_append rfl _ _ _ rfl info_byte Tryd.underlying22 w.heap.size _ Q rfl Oo13 _ 32 32 SI rfl HSIL.out.symm C13 (by rw [HSIL.out, LQ.out]; simp) hb13.size ?_
                     intro v14 w14 O14 G14 P14
                     have hb14 := hb13.grown G14 hb13.size (fun k hk => (Oo13.lt k hk).1)
                     have BZ14 := BZ13.grown G14 (Oo13.ne BZ13 (by decide))
                     obtain ⟨A14, n14, c14, hn14, hv14, hC14⟩ := O14.arg_
                     subst hv14
                     have HN14 := Lib.hid hn14
                     clear G14 P14 Oo13 C13 hb13 hn14 BZ13)
                  | (go_at_call 17; (with_reducible refine (HSUM.out (Q ++ SI) D (by rw [HQ.out]; exact HD.out) _ _ _ _ hb14 HN14.out (by rw [HN14.out, List.length_append, LQ.out, HSIL.out]; omega) (AQ.out.app HSIA.out) hC14).mono ?_)
                     rintro e w19 ⟨rfl, hb19⟩
                     have BZ19 : Blk w19 w.heap.size 24 ([] ++ (List.replicate 32 0).map v8 ++ []).toArray := BZ14.below hb19 BZ14.lt
                     have hb19' := hb14.trans (hb19.mono hb14.size)
                     clear hb19 O14 hC14 BZ14)
                  | (refine wpl_store rfl 24 _ _ rfl w.heap.size 0 rfl 24 [] ((List.replicate 32 0).map v8) [] (D.map v8) rfl BZ19 rfl (by rw [List.length_map, HDl.out]; rfl) (by rw [List.length_map, HDl.out]; kernel_rfl) (v8_one D) ?_; intro w29 B29 O29))
                exact bodyPost_ret (results_cell_row rfl _ _ w.heap.size 24 (D.map v8).toArray (0, 0) _ rfl (by have h9 := B29; rw [List.nil_append, List.append_nil] at h9; exact h9) Tryd.underlying24 rfl (by rw [show (D.map v8).toArray.size = 32 by simp [HDl.out]]; kernel_rfl)) rfl ⟨rfl, O29.below hb19' (Nat.le_refl _)⟩
set_option maxRecDepth 100000 in
set_option maxHeartbeats 2000000 in
theorem rjoined_any (ps : List (List Nat)) (B : Option Addr) (n cb : Nat) (w : World) (hn : n = ps.length) (hmax : (joinOf ps).length ≤ 1000000000) (hpa : ∀ p ∈ ps, All 256 p) (hC : CP w B n ps) (ht : Tab2 w) (h2 : 2 < w.heap.size) :
    Calls Tryd.prog 39 #[.slice B n cb] w fun e w' => e = .returned (.agg ((sumOf (joinOf ps)).map v8).toArray) ∧ Below w.heap.size w w' := by
  have hn9 : n ≤ 9223372036854775807 := hC.2.1
  obtain ⟨E, hE⟩ : ∃ E, E = sumOf (joinOf ps) := ⟨_, rfl⟩
  have hEl : E.length = 32 := by rw [hE]; exact sumOf_len _
  rw [← hE]
  have hsum : ∀ (p D : List Nat) (hD : sumOf p = D) (A : Option Addr) (n c : Nat) (V : World), Below w.heap.size w V → n = p.length → n ≤ 100000000000000 → All 256 p → C8 V A p.length p →
      Calls Tryd.prog 17 #[.slice A n c] V fun e w' => e = .returned (.agg (D.map v8).toArray) ∧ Below V.heap.size V w' := fun p D hD A n c V hb h1 h2' h4 h5 => rsum_to p D hD A n c V h1 h2' h4 h5 (ht.below hb h2) (Nat.lt_of_lt_of_le h2 hb.size)
  have HSUM := Lib.hid hsum
  have HN := Lib.hid hn; have HC := Lib.hid hC; have HM := Lib.hid hmax; have HA := Lib.hid hpa; have HE := Lib.hid hE; have HEl := Lib.hid hEl
  clear hsum hn hC hmax hpa ht hE hEl
  go_enter Tryd.func39, Tryd.ntmps39
  go_wp2
  go_loopw [3, 4] (fun vj v wr => ∃ j : Nat, j ≤ n ∧ v = .int .i64 (j : Int) ∧ Own wr w.heap.size vj (joinOf (ps.take j)) ∧ Below w.heap.size w wr ∧ Blk wr w.heap.size 24 (c8 (List.replicate 32 0))) (fun _ v _ => n - (intOf v).toNat)
  case atStart => exact ⟨0, by omega, rfl, Own.nil _ _, (Below.refl _ _).alloc (Nat.le_refl _) _, Blk.new w 24 (c8 (List.replicate 32 0))⟩
  case round =>
    obtain ⟨j, hj, rfl, Oj, hb, BZ⟩ := hrel
    have hs := hb.size
    by_cases hlt : j < n
    · obtain ⟨ad, p, Aj, cj, hA, hp, hcell, hle, hCj⟩ := HC.out.at_ j hlt
      subst hA
      have hpl := joinOf_le hp
      have hmax := HM.out
      have nJ := joinOf_take hp
      obtain ⟨JP, hJP⟩ : ∃ X, X = joinOf (ps.take j) := ⟨_, rfl⟩
      rw [← hJP] at Oj nJ hpl
      obtain ⟨pl, hpl0⟩ : ∃ pl, pl = p.length := ⟨_, rfl⟩
      rw [← hpl0] at hcell hle nJ hpl
      have plm : pl ≤ 1000000000 := by omega
      have h8 : ∀ V : World, Calls Tryd.prog 55 #[.int .u64 (pl : Int)] V fun e w' => ∃ v, e = .returned v ∧ Own w' V.heap.size v (eight pl) ∧ Below V.heap.size V w' := fun V => reight_any pl V
      have hE8 : (eight pl).length = 8 := eight_len pl
      obtain ⟨e8, he8⟩ : ∃ e, e = eight pl := ⟨_, rfl⟩
      rw [← he8] at nJ hE8 h8
      have NJ := Lib.hid nJ; have LJ := Lib.hid hpl; have HPL := Lib.hid hpl0; have HE8 := Lib.hid hE8; have HCj := Lib.hid hCj; have HCL := Lib.hid hcell; have H8 := Lib.hid h8
      have HOj := Lib.hid Oj
      have c0 : wr.cell? (ad.add j) = some (.slice Aj pl cj) := (hb.cell (World.block_lt_of_cell? w _ hcell)).trans hcell
      have j0 : (0 : Int) ≤ (j : Int) := by omega
      have j1 : (j : Int) < (n : Int) := by omega
      have p0 : (0 : Int) ≤ (pl : Int) := by omega
      clear hCj hp hmax hcell nJ hpl hpl0 hJP hE8 he8 Oj h8
      go_wp2_with (first
        | (go_at_call 55; (with_reducible refine (H8.out _).mono ?_); rintro e w2 ⟨v2, rfl, O2, hb2⟩
           have hb2' := hb.trans (hb2.mono hs)
           have Oj2 := HOj.out.below hb2
           have BZ2 := BZ.below hb2 BZ.lt
           obtain ⟨A2, n2, c2, hn2, hv2, hC2⟩ := O2.arg_
           subst hv2
           have HN2 := Lib.hid hn2
           clear hb2 O2 hn2)
        | (at_builtin; refine wpl_append rfl _ _ _ rfl info_byte Tryd.underlying22 w.heap.size _ JP rfl Oj2 A2 c2 n2 e8 rfl HN2.out hC2 (by rw [HE8.out]; have := LJ.out; have := HM.out; omega) hb2'.size ?_
           intro v3 w3 O3 G3 P3
           have hb3 := hb2'.grown G3 hb2'.size (fun k hk => (Oj2.lt k hk).1)
           have BZ3 := BZ2.grown G3 (Oj2.ne BZ2 (by decide))
           have c3 : w3.cell? (ad.add j) = some (.slice Aj pl cj) := (hb3.cell (World.block_lt_of_cell? w _ HCL.out)).trans HCL.out
           clear G3 P3 Oj2 hC2 hb2' BZ2)
        | (at_builtin; refine wpl_append rfl _ _ _ rfl info_byte Tryd.underlying22 w.heap.size _ (JP ++ e8) rfl O3 Aj cj pl p rfl HPL.out (HCj.out.below hb3) (by rw [← HPL.out, List.length_append, HE8.out]; have := LJ.out; have := HM.out; omega) hb3.size ?_
           intro v4 w4 O4 G4 P4
           have hb4 := hb3.grown G4 hb3.size (fun k hk => (O3.lt k hk).1)
           have BZ4 := BZ3.grown G4 (O3.ne BZ3 (by decide))
           rw [← NJ.out] at O4
           clear G4 P4 O3 hb3 BZ3))
      go_roundw
      case rel => exact ⟨j + 1, by omega, by go_num, O4, hb4, BZ4⟩
      case measure => simp [intOf]; omega
    · have t0 : ¬ ((j : Int) < (n : Int)) := by omega
      have hjn : j = ps.length := by have := HN.out; omega
      have e2 : joinOf (ps.take j) = joinOf ps := by rw [hjn, List.take_length]
      rw [e2] at Oj
      have aJ : All 256 (joinOf ps) := joinOf_all HA.out
      obtain ⟨J, hJ⟩ : ∃ J, J = joinOf ps := ⟨_, rfl⟩
      have lJ : J.length ≤ 1000000000 := by rw [hJ]; exact HM.out
      rw [← hJ] at Oj aJ
      have sJ : sumOf J = E := by rw [hJ]; exact HE.out.symm
      have AJ := Lib.hid aJ; have LJ := Lib.hid lJ; have SJ := Lib.hid sJ
      clear hJ aJ lJ sJ e2 hjn
      obtain ⟨Ajj, nj, cj, hnj, hvj, hCj⟩ := Oj.arg_
      subst hvj
      have HNJ := Lib.hid hnj; have HCJ := Lib.hid hCj
      clear hnj hCj
      go_wp2_with (first
        | (go_at_call 17; (with_reducible refine (HSUM.out J E SJ.out _ _ _ _ hb HNJ.out (by have := HNJ.out; have := LJ.out; omega) AJ.out HCJ.out).mono ?_)
           rintro e w19 ⟨rfl, hb19⟩
           have BZ19 : Blk w19 w.heap.size 24 ([] ++ (List.replicate 32 0).map v8 ++ []).toArray := BZ.below hb19 BZ.lt
           have hb19' := hb.trans (hb19.mono hs)
           clear hb19)
        | (refine wpl_store rfl 24 _ _ rfl w.heap.size 0 rfl 24 [] ((List.replicate 32 0).map v8) [] (E.map v8) rfl BZ19 rfl (by rw [List.length_map, HEl.out]; rfl) (by rw [List.length_map, HEl.out]; kernel_rfl) (v8_one E) ?_; intro w29 B29 O29))
      exact bodyPost_ret (results_cell_row rfl _ _ w.heap.size 24 (E.map v8).toArray (0, 0) _ rfl (by have h9 := B29; rw [List.nil_append, List.append_nil] at h9; exact h9) Tryd.underlying24 rfl (by rw [show (E.map v8).toArray.size = 32 by simp [HEl.out]]; kernel_rfl)) rfl ⟨rfl, O29.below hb19' (Nat.le_refl _)⟩
end Go.Proofs.YtfedlgcpgfofjaaDoor.Sha
