/-
  DigestKeyed: Mac and Joined are what their definitions make of Sum.
-/
import Derived.Test.YtfedlgcpgfofjaaDoorDRows
import Derived.Test.YtfedlgcpgfofjaaDoorDEq
namespace Go.Proofs.YtfedlgcpgfofjaaDoor.Sha
open Go.RowKit Go.Proofs.YtfedlgcpgfofjaaDoorW.PrintWords Go.Proofs.YtfedlgcpgfofjaaDoor.PAll Go.Proofs.YtfedlgcpgfofjaaDoor.Plain
set_option linter.unusedVariables false
set_option maxRecDepth 100000 in
set_option maxHeartbeats 2000000 in
theorem law_keyed (key : List Nat) (ps : List (List Nat)) (A : Option Addr) (kl c : Nat) (B : Option Addr) (n cb : Nat) (w : World) (hkl : kl = key.length) (hkm : kl ≤ 1000000000) (hkc : kl ≤ c) (hka : All 256 key) (hK : C8 w A key.length key)
    (hn : n = ps.length) (hmax : (joinOf ps).length ≤ 1000000000) (hpa : ∀ p ∈ ps, All 256 p) (hC : CP w B n ps) (hT : TabsP w) :
    Calls Tryd.prog 5 #[.slice A kl c, .slice B n cb] w fun e w' => e = .returned (.bool true) ∧ Below w.heap.size w w' := by
  have hn9 : n ≤ 9223372036854775807 := hC.2.1
  have hfj := flat_join ps
  obtain ⟨K, hKb⟩ : ∃ K, K = keyBlk key := ⟨_, rfl⟩
  have hKl : K.length = 64 := by rw [hKb]; exact keyBlk_len key
  have hKa : All 256 K := by rw [hKb]; exact keyBlk_all hka
  obtain ⟨kk, hkk⟩ : ∃ kk, kk = keyOf key := ⟨_, rfl⟩
  have hkkl : kk.length ≤ 64 := by rw [hkk]; exact keyOf_len key
  have hKk : K = kk ++ List.replicate (64 - kk.length) 0 := by rw [hKb, hkk]; rfl
  obtain ⟨S, hS⟩ : ∃ S, S = sumOf key := ⟨_, rfl⟩
  have hSl : S.length = 32 := by rw [hS]; exact sumOf_len key
  have hbig : 64 < kl → kk = S := fun h => by rw [hkk, hS]; unfold keyOf; rw [if_pos (by omega)]
  have hsmall : kl ≤ 64 → kk = key := fun h => by rw [hkk]; unfold keyOf; rw [if_neg (by omega)]
  obtain ⟨I, hI⟩ : ∃ I, I = K.map (· ^^^ 54) ++ ps.flatten := ⟨_, rfl⟩
  obtain ⟨SI, hSI⟩ : ∃ SI, SI = sumOf I := ⟨_, rfl⟩
  have hSIl : SI.length = 32 := by rw [hSI]; exact sumOf_len _
  have hSIa : All 256 SI := by rw [hSI]; exact sumOf_all _
  obtain ⟨D, hD⟩ : ∃ D, D = macOf key ps := ⟨_, rfl⟩
  have hDs : sumOf (K.map (· ^^^ 92) ++ SI) = D := by rw [hD, hSI, hI, hKb]; rfl
  have hDl : D.length = 32 := by rw [← hDs]; exact sumOf_len _
  obtain ⟨E, hE⟩ : ∃ E, E = sumOf (joinOf ps) := ⟨_, rfl⟩
  have hEl : E.length = 32 := by rw [hE]; exact sumOf_len _
  have hsum : ∀ (p D : List Nat) (hD : sumOf p = D) (A : Option Addr) (n c : Nat) (V : World), Below w.heap.size w V → n = p.length → n ≤ 100000000000000 → n ≤ c → All 256 p → C8 V A p.length p →
      Calls Tryd.prog 14 #[.slice A n c] V fun e w' => e = .returned (.agg (D.map v8).toArray) ∧ Below V.heap.size V w' := fun p D hD A n c V hb h1 h2 h3 h4 h5 => sum_to p D hD A n c V h1 h2 h3 h4 h5 (hT.below hb)
  have hlive : ∀ (V : World), Below w.heap.size w V → Calls Tryd.prog 15 #[] V fun e w' => e = .returned (.bool true) ∧ Below V.heap.size V w' := fun V hb => live_any V (hT.below hb).1 (hT.below hb).2.1 (hT.below hb).2.2
  have hmac : ∀ (V : World), Below w.heap.size w V → ∀ (A' : Option Addr) (n' c' : Nat), n' = key.length → n' ≤ c' → C8 V A' key.length key → Calls Tryd.prog 23 #[.slice A' n' c', .slice B n cb] V fun e w' => e = .returned (.agg (D.map v8).toArray) ∧ Below V.heap.size V w' := fun V hb A' n' c' h1 h2 h3 => by
    rw [hD]
    exact mac_any key ps A' n' c' B n cb V h1 (by omega) h2 hka h3 hn (by omega) hpa (hC.below hb) (hT.below hb).1 (hT.below hb).2.1 (hT.below hb).2.2
  have hjoin : ∀ (V : World), Below w.heap.size w V → Calls Tryd.prog 24 #[.slice B n cb] V fun e w' => e = .returned (.agg (E.map v8).toArray) ∧ Below V.heap.size V w' := fun V hb => by
    rw [hE]
    exact joined_any ps B n cb V hn (by omega) hpa (hC.below hb) (hT.below hb).1 (hT.below hb).2.1 (hT.below hb).2.2
  have heq : ∀ (F : List Nat), F.length = 32 → ∀ V : World, (binOp .eql 24 (.agg (F.map v8).toArray) (.agg (F.map v8).toArray)).run Tryd.prog V = .ok (.bool true) V := fun F hF V => by
    have h := run_eql24 F F hF hF V
    rwa [decide_eq_true rfl] at h
  have heqD := heq D hDl
  have heqE := heq E hEl
  clear heq
  have HSUM := Lib.hid hsum; have HLIVE := Lib.hid hlive; have HMAC := Lib.hid hmac; have HJOIN := Lib.hid hjoin
  have HN := Lib.hid hn; have HC := Lib.hid hC; have HM := Lib.hid hmax; have HA := Lib.hid hpa; have HFJ := Lib.hid hfj
  have HKL := Lib.hid hKl; have HKA := Lib.hid hKa; have HS := Lib.hid hS; have HSL := Lib.hid hSl; have HI := Lib.hid hI; have HSI := Lib.hid hSI; have HSIL := Lib.hid hSIl; have HSIA := Lib.hid hSIa; have HD := Lib.hid hDs; have HDl := Lib.hid hDl
  have HK := Lib.hid hK; have HKN := Lib.hid hkl; have HBIG := Lib.hid hbig; have HSM := Lib.hid hsmall; have HKK := Lib.hid hkkl; have HKB := Lib.hid hKk; have HE := Lib.hid hE; have HEl := Lib.hid hEl; have HKEY := Lib.hid hka
  clear hsum hlive hmac hjoin hn hC hmax hpa hfj hKl hKa hS hSl hI hSI hSIl hSIa hD hDs hDl hK hkl hbig hsmall hKb hkkl hKk hkk hE hEl hT hka
  have k0 : (0 : Int) ≤ (kl : Int) := by omega
  rcases Nat.lt_or_ge 64 kl with h64 | h64
  all_goals go_enter Tryd.func5, Tryd.ntmps5
  case' inl =>
    go_wp2_with (first
      | (at_builtin; refine wpl_append rfl _ _ _ rfl info_byte Tryd.underlying22 w.heap.size (.slice (some ⟨w.heap.size, 0, none⟩) 0 0) [] rfl (Own.nil_alloc w _ _ rfl (Nat.le_refl _)) A c kl key rfl HKN.out (HK.out.below ((Below.refl _ _).alloc (Nat.le_refl _) _)) (by rw [← HKN.out]; simp; omega) (by simp) ?_
         intro v1 w1 O1 G1 P1
         rw [List.nil_append] at O1
         obtain ⟨A1, n1, c1, hn1, rfl, hC1⟩ := O1.arg_
         rw [← HKN.out] at hn1
         subst n1
         have hb1 : Below w.heap.size w w1 := ((Below.refl _ _).alloc (Nat.le_refl _) _).grown G1 (by simp) (by simp [Value.ownBlock])
         clear G1 P1)
      | (go_at_call 14; (with_reducible refine (HSUM.out key S HS.out.symm _ _ _ _ hb1 HKN.out (by omega) (Own.c8 O1).2.1 HKEY.out hC1).mono ?_)
         rintro e w2 ⟨rfl, hb2⟩
         have hb2' := hb1.trans (hb2.mono hb1.size)
         clear hb2)
      | (refine wpl_store rfl 24 _ _ rfl w2.heap.size 0 rfl 24 [] ((List.replicate 32 0).map v8) [] (S.map v8) rfl (by rw [List.nil_append, List.append_nil]; exact Blk.new w2 24 (c8 (List.replicate 32 0))) rfl (by rw [List.length_map, HSL.out]; rfl) (by rw [List.length_map, HSL.out]; kernel_rfl) (v8_one _) ?_; intro w3 B3 O3
         have hb3 : Below w.heap.size w w3 := O3.below (hb2'.alloc hb2'.size _) hb2'.size
         have C3 : C8 w3 (some ⟨w2.heap.size, 0, none⟩) S.length S := by rw [HSL.out]; exact C8.of_Blk B3 32 HSL.out.symm (by omega)
         clear O3 hb2' B3)
      | (at_builtin; refine wpl_append rfl _ _ _ rfl info_byte Tryd.underlying22 w.heap.size (.slice (some ⟨w3.heap.size, 0, none⟩) 0 0) [] rfl (Own.nil_alloc w3 _ _ rfl hb3.size) _ 32 32 S rfl HSL.out.symm (C3.below ((Below.refl _ _).alloc (Nat.le_refl _) _)) (by rw [HSL.out]; simp) (by have := hb3.size; simp; omega) ?_
         intro v5 w5 O5 G5 P5
         rw [List.nil_append, ← HBIG.out h64] at O5
         have hb5 : Below w.heap.size w w5 := (hb3.alloc hb3.size _).grown G5 (by have := hb3.size; simp; omega) (by have := hb3.size; simp [Value.ownBlock]; omega)
         clear G5 P5 C3 O1 hC1 hb1 hb3))
  case' inr =>
    have kq : ¬ ((64 : Int) < (kl : Int)) := by omega
    go_wp2_with (
      at_builtin; refine wpl_append rfl _ _ _ rfl info_byte Tryd.underlying22 w.heap.size (.slice (some ⟨w.heap.size, 0, none⟩) 0 0) [] rfl (Own.nil_alloc w _ _ rfl (Nat.le_refl _)) A c kl key rfl HKN.out
          (HK.out.below ((Below.refl _ _).alloc (Nat.le_refl _) _)) (by rw [← HKN.out]; simp; omega) (by simp) ?_
      intro v5 w5 O5 G5 P5
      rw [List.nil_append] at O5
      have hb5 : Below w.heap.size w w5 := ((Below.refl _ _).alloc (Nat.le_refl _) _).grown G5 (by simp) (by simp [Value.ownBlock])
      obtain ⟨A1, n1, c1, hn1, rfl, hC1⟩ := O5.arg_
      rw [← HKN.out] at hn1
      subst n1
      rw [← HSM.out h64] at O5
      clear G5 P5 hC1)
  all_goals
    have hlen : ∀ z, (kk ++ List.replicate z 0).length = kk.length + z := fun z => by simp
    have HLEN := Lib.hid hlen
    obtain ⟨kkl, hkkl⟩ : ∃ kkl, kkl = kk.length := ⟨_, rfl⟩
    have HKKL := Lib.hid hkkl
    have hk64 : kkl ≤ 64 := by rw [hkkl]; exact HKK.out
    clear hlen hkkl
    go_loopw [5] (fun v wr => ∃ z : Nat, z ≤ 64 - kkl ∧ Own wr w.heap.size v (kk ++ List.replicate z 0) ∧ Below w.heap.size w wr) (fun v _ => 70 - slen v)
    case atStart => exact ⟨0, by omega, by rw [List.replicate_zero, List.append_nil]; exact O5, hb5⟩
    case round =>
      clear O5 hb5
      obtain ⟨z, hz, O, hb⟩ := hrel
      obtain ⟨A4, n4, c4, hn4, rfl, hC4⟩ := O.arg_
      rw [HLEN.out, ← HKKL.out] at hn4
      have j0 : (0 : Int) ≤ (n4 : Int) := by omega
      have j1 : (n4 : Int) ≤ 100 := by omega
      have hs := hb.size
      by_cases hlt : z < 64 - kkl
      · have t1 : ((n4 : Int) < 64) := by omega
        have HN := Lib.hid hn4
        have hO := Lib.hid O
        clear hn4 hC4
        go_wp2_with (at_builtin; refine wpl_append rfl _ _ _ rfl info_byte Tryd.underlying22 w.heap.size _ _ rfl (hO.out.alloc _) _ _ _ [0] rfl rfl (C8.one_ _ 0 0 rfl _ rfl) (by rw [HLEN.out, ← HKKL.out]; simp; omega) (by simp; omega) ?_; intro v3 w3 O3 G3 _)
        go_roundw
        case rel =>
          refine ⟨z + 1, by omega, ?_, (hb.alloc hs _).grown G3 (by simp; omega) (fun k hk => (hO.out.lt k hk).1)⟩
          rw [List.replicate_succ', ← List.append_assoc]
          exact O3
        case measure =>
          obtain ⟨A5, n5, c5, hn5, rfl, _⟩ := O3.arg_
          have h1 := HN.out
          have h2 := HLEN.out z
          have h3 := HKKL.out
          simp only [slen_slice]
          rw [List.length_append, h2] at hn5
          simp at hn5
          omega
      · have t1 : ¬ ((n4 : Int) < 64) := by omega
        have hz2 : z = 64 - kkl := by omega
        have eK : kk ++ List.replicate z 0 = K := by rw [HKB.out, hz2, HKKL.out]
        rw [eK] at O hC4
        rw [HKL.out] at hC4
        have h64' : n4 = 64 := by omega
        subst h64'
        have HO := Lib.hid O
        clear eK hz2 hlt hz hn4 O
        go_wp2
        obtain ⟨b4, o4, rfl, _, _⟩ := hC4.at_ (by omega)
        clear hC4 t1 j0 j1
        go_loopw [7, 8, 10] (fun vi vo v wr => ∃ i : Nat, i ≤ 64 ∧ v = .int .i64 (i : Int) ∧ Own wr w.heap.size vi ((K.take i).map (· ^^^ 54)) ∧ Own wr w.heap.size vo ((K.take i).map (· ^^^ 92)) ∧ Own wr w.heap.size (.slice (some ⟨b4, o4, none⟩) 64 c4) K ∧
          Apart (.slice (some ⟨b4, o4, none⟩) 64 c4) vi ∧ Apart (.slice (some ⟨b4, o4, none⟩) 64 c4) vo ∧ Apart vo vi ∧ Below w.heap.size w wr) (fun _ _ v _ => 64 - (intOf v).toNat)
        case atStart => exact ⟨0, by omega, rfl, Own.nil _ _, Own.nil _ _, HO.out, Apart.nil_right _, Apart.nil_right _, Apart.nil_right _, hb⟩
        case round =>
          clear HO hb hs
          obtain ⟨i, hi, rfl, Oi, Oo, OK, ki, ko, oi, hb⟩ := hrel
          have hs := hb.size
          by_cases hlt : i < 64
          · obtain ⟨x, hx⟩ : ∃ x, K[i]? = some x := ⟨_, List.getElem?_eq_getElem (by rw [HKL.out]; exact hlt)⟩
            have hx2 : x < 256 := HKA.out x (List.mem_of_getElem? hx)
            have e54 : bits .xor .u8 (x : Int) 54 = ((x ^^^ 54 : Nat) : Int) := u8_xor x 54 hx2 (by decide)
            have e92 : bits .xor .u8 (x : Int) 92 = ((x ^^^ 92 : Nat) : Int) := u8_xor x 92 hx2 (by decide)
            have c0 := OK.cellAt hx
            obtain ⟨P, hP⟩ : ∃ P, P = (K.take i).map (· ^^^ 54) := ⟨_, rfl⟩
            obtain ⟨Q, hQ⟩ : ∃ Q, Q = (K.take i).map (· ^^^ 92) := ⟨_, rfl⟩
            have nP : (K.take (i + 1)).map (· ^^^ 54) = P ++ [x ^^^ 54] := by rw [List.take_add_one, hx, hP]; simp
            have nQ : (K.take (i + 1)).map (· ^^^ 92) = Q ++ [x ^^^ 92] := by rw [List.take_add_one, hx, hQ]; simp
            have lP : P.length = i := by rw [hP]; simp [HKL.out]; omega
            have lQ : Q.length = i := by rw [hQ]; simp [HKL.out]; omega
            rw [← hP] at Oi
            rw [← hQ] at Oo
            have NP := Lib.hid nP; have NQ := Lib.hid nQ; have E54 := Lib.hid e54; have E92 := Lib.hid e92; have LP := Lib.hid lP; have LQ := Lib.hid lQ; have HX := Lib.hid hx
            have HOi := Lib.hid Oi; have HOo := Lib.hid Oo; have HOK := Lib.hid OK
            have i0 : (0 : Int) ≤ (i : Int) := by omega
            have i1 : (i : Int) < 64 := by omega
            clear hP hQ nP nQ e54 e92 lP lQ hx Oi Oo OK
            go_wp2_with (first
              | (at_builtin; refine wpl_append rfl _ _ _ rfl info_byte Tryd.underlying22 w.heap.size _ P rfl (HOi.out.alloc _) _ _ _ [x ^^^ 54] rfl rfl (C8.one_ _ (x ^^^ 54) _ E54.out _ rfl) (by rw [LP.out]; simp; omega) (by simp; omega) ?_
                 intro v3 w3 O3 G3 P3
                 have OK3 := (HOK.out.alloc _).far G3 ki
                 have Oo3 := (HOo.out.alloc _).far G3 oi
                 have ki3 := ki.grow (HOK.out.alloc _) (Nat.le_refl _) P3
                 have oi3 := oi.grow (HOo.out.alloc _) (Nat.le_refl _) P3
                 have c3 := OK3.cellAt HX.out
                 have hb3 := (hb.alloc hs _).grown G3 (by simp; omega) (fun k hk => (HOi.out.lt k hk).1)
                 have hs3 := hb3.size
                 have H3 := Lib.hid O3
                 have HOK3 := Lib.hid OK3
                 have HOo3 := Lib.hid Oo3
                 clear O3 OK3 Oo3 G3 P3)
              | (at_builtin; refine wpl_append rfl _ _ _ rfl info_byte Tryd.underlying22 w.heap.size _ Q rfl (HOo3.out.alloc _) _ _ _ [x ^^^ 92] rfl rfl (C8.one_ _ (x ^^^ 92) _ E92.out _ rfl) (by rw [LQ.out]; simp; omega) (by simp; omega) ?_
                 intro v4 w4 O4 G4 P4
                 have OK4 := (HOK3.out.alloc _).far G4 ko
                 have Oi4 := (H3.out.alloc _).far G4 oi3.symm
                 have ko4 := ko.grow (HOK3.out.alloc _) (Nat.le_refl _) P4
                 have io4 := (oi3.symm.grow (H3.out.alloc _) (Nat.le_refl _) P4)
                 have hb4 := (hb3.alloc hs3 _).grown G4 (by simp; omega) (fun k hk => (HOo3.out.lt k hk).1)
                 clear G4 P4))
            go_roundw
            case rel => exact ⟨i + 1, by omega, by go_num, by rw [NP.out]; exact Oi4, by rw [NQ.out]; exact O4, OK4, ki3, ko4, io4.symm, hb4⟩
            case measure => simp [intOf]; omega
          · have t1 : ¬ ((i : Int) < 64) := by omega
            have eK : K.take i = K := List.take_of_length_le (by rw [HKL.out]; omega)
            rw [eK] at Oi Oo
            obtain ⟨P, hP⟩ : ∃ P, P = K.map (· ^^^ 54) := ⟨_, rfl⟩
            obtain ⟨Q, hQ⟩ : ∃ Q, Q = K.map (· ^^^ 92) := ⟨_, rfl⟩
            have aP : All 256 P := by rw [hP]; exact xor_all _ _ HKA.out (by decide)
            have aQ : All 256 Q := by rw [hQ]; exact xor_all _ _ HKA.out (by decide)
            have lP : P.length = 64 := by rw [hP, List.length_map, HKL.out]
            have lQ : Q.length = 64 := by rw [hQ, List.length_map, HKL.out]
            rw [← hP] at Oi
            rw [← hQ] at Oo
            have HP := Lib.hid hP; have HQ := Lib.hid hQ; have LP := Lib.hid lP; have LQ := Lib.hid lQ; have AP := Lib.hid aP; have AQ := Lib.hid aQ
            have HOi := Lib.hid Oi; have HOo := Lib.hid Oo
            clear hP hQ eK lP lQ aP aQ OK ki ko Oi Oo hlt
            go_wp2
            go_loopw [7, 9, 11, 12] (fun vi vj v _ wr => ∃ j : Nat, j ≤ n ∧ v = .int .i64 (j : Int) ∧ Own wr w.heap.size vi (P ++ (ps.take j).flatten) ∧ Own wr w.heap.size vj (joinOf (ps.take j)) ∧ Own wr w.heap.size u8 Q ∧
              Apart vi vj ∧ Apart u8 vi ∧ Apart u8 vj ∧ Below w.heap.size w wr) (fun _ _ v _ _ => n - (intOf v).toNat)
            case atStart => exact ⟨0, by omega, rfl, by rw [List.take_zero, List.flatten_nil, List.append_nil]; exact HOi.out, Own.nil _ _, HOo.out, Apart.nil_right _, oi, Apart.nil_right _, hb⟩
            case round =>
              clear HOi HOo hb hs oi t1 hi
              obtain ⟨j, hj, rfl, Oi, Oj, Oo, ij, oi, oj, hb⟩ := hrel
              have hs := hb.size
              by_cases hlt : j < n
              · obtain ⟨ad, p, Aj, cj, hA, hp, hcell, hle, hCj⟩ := HC.out.at_ j hlt
                subst hA
                have hfl := flat_le hp
                have hpl := joinOf_le hp
                have hmax := HM.out
                have hfj := HFJ.out
                have hpa : All 256 p := HA.out p (List.mem_of_getElem? hp)
                have nI : P ++ (ps.take (j + 1)).flatten = P ++ (ps.take j).flatten ++ p := by rw [flat_take hp, List.append_assoc]
                have nJ := joinOf_take hp
                have lI : (P ++ (ps.take j).flatten).length + p.length ≤ 1000000064 := by rw [List.length_append, LP.out]; omega
                obtain ⟨IP, hIP⟩ : ∃ X, X = P ++ (ps.take j).flatten := ⟨_, rfl⟩
                obtain ⟨JP, hJP⟩ : ∃ X, X = joinOf (ps.take j) := ⟨_, rfl⟩
                rw [← hIP] at Oi nI lI
                rw [← hJP] at Oj nJ hpl
                obtain ⟨pl, hpl0⟩ : ∃ pl, pl = p.length := ⟨_, rfl⟩
                rw [← hpl0] at hcell hle nJ hpl lI
                have hE8 : (eight pl).length = 8 := eight_len pl
                obtain ⟨e8, he8⟩ : ∃ e, e = eight pl := ⟨_, rfl⟩
                rw [← he8] at nJ hE8
                have plm : pl ≤ 1000000000 := by omega
                have NI := Lib.hid nI; have NJ := Lib.hid nJ; have LI := Lib.hid lI; have LJ := Lib.hid hpl; have HPL := Lib.hid hpl0; have HE8 := Lib.hid hE8; have HEE := Lib.hid he8; have HCj := Lib.hid hCj; have HCL := Lib.hid hcell
                have HOi := Lib.hid Oi; have HOj := Lib.hid Oj; have HOo := Lib.hid Oo
                have c0 : wr.cell? (ad.add j) = some (.slice Aj pl cj) := (hb.cell (World.block_lt_of_cell? w _ hcell)).trans hcell
                have j0 : (0 : Int) ≤ (j : Int) := by omega
                have j1 : (j : Int) < (n : Int) := by omega
                have p0 : (0 : Int) ≤ (pl : Int) := by omega
                clear hCj hp hfl hmax hcell hfj nI nJ lI hpl hpl0 hIP hJP hE8 he8 Oi Oj Oo
                go_wp2_with (
                  at_builtin; refine wpl_append rfl _ _ _ rfl info_byte Tryd.underlying22 w.heap.size _ IP rfl HOi.out Aj cj pl p rfl HPL.out (HCj.out.below hb) (by rw [← HPL.out]; have := LI.out; omega) hs ?_
                  intro v3 w3 O3 G3 P3
                  have Oj3 := HOj.out.far G3 ij.symm
                  have Oo3 := HOo.out.far G3 oi
                  have ji3 := ij.symm.grow HOj.out (Nat.le_refl _) P3
                  have oi3 := oi.grow HOo.out (Nat.le_refl _) P3
                  have hb3 := hb.grown G3 hs (fun k hk => (HOi.out.lt k hk).1)
                  rw [← NI.out] at O3
                  clear G3 P3)
                go_loopw [9, 12] (fun vj v wr => ∃ t : Nat, t ≤ 8 ∧ v = .int .i64 (56 - 8 * (t : Int)) ∧ Own wr w.heap.size v3 (P ++ (ps.take (j + 1)).flatten) ∧ Own wr w.heap.size vj (JP ++ e8.take t) ∧ Own wr w.heap.size u8 Q ∧
                  Apart v3 vj ∧ Apart u8 v3 ∧ Apart u8 vj ∧ Below w.heap.size w wr) (fun _ v _ => (intOf v + 8).toNat)
                case atStart => exact ⟨0, by omega, rfl, O3, by rw [List.take_zero, List.append_nil]; exact Oj3, Oo3, ji3.symm, oi3, oj, hb3⟩
                case round =>
                  clear HOi HOj HOo O3 Oj3 Oo3 ji3 oi3 oj hb3 hb hs c0 ij oi
                  obtain ⟨t, ht, rfl, Oi, Oj, Oo, ij, oi, oj, hb⟩ := hrel
                  have hs := hb.size
                  have c0 : wr.cell? (ad.add j) = some (.slice Aj pl cj) := (hb.cell (World.block_lt_of_cell? w _ HCL.out)).trans HCL.out
                  have HOi := Lib.hid Oi; have HOj := Lib.hid Oj; have HOo := Lib.hid Oo
                  clear Oi Oj Oo
                  by_cases hlt8 : t < 8
                  · have t0 : (56 - 8 * (t : Int)) ≥ 0 := by omega
                    have tn : 8 * (7 - t) = 56 - 8 * t := by omega
                    have et : e8[t]? = some (pl / 2 ^ (56 - 8 * t) % 256) := by rw [HEE.out, eight_at pl t hlt8, tn]
                    have nE : JP ++ e8.take (t + 1) = JP ++ e8.take t ++ [pl / 2 ^ (56 - 8 * t) % 256] := by rw [List.take_add_one, et, List.append_assoc]; rfl
                    have eb : ((pl : Int) / 2 ^ (56 - 8 * t) % 256) = ((pl / 2 ^ (56 - 8 * t) % 256 : Nat) : Int) := by simp
                    have lE : (JP ++ e8.take t).length ≤ 1000000000 := by rw [List.length_append, List.length_take, HE8.out]; have := LJ.out; have := HM.out; omega
                    have NE := Lib.hid nE; have EB := Lib.hid eb; have LE := Lib.hid lE
                    clear tn et nE eb lE
                    go_wp2_with (
                      at_builtin; refine wpl_append rfl _ _ _ rfl info_byte Tryd.underlying22 w.heap.size _ (JP ++ e8.take t) rfl (HOj.out.alloc _) _ _ _ [pl / 2 ^ (56 - 8 * t) % 256] rfl rfl (C8.one_ _ (pl / 2 ^ (56 - 8 * t) % 256) _ EB.out _ rfl) (by have := LE.out; rw [List.length_singleton]; omega) (by simp; omega) ?_
                      intro v4 w4 O4 G4 P4
                      have Oi4 := (HOi.out.alloc _).far G4 ij
                      have Oo4 := (HOo.out.alloc _).far G4 oj
                      have ij4 := ij.grow (HOi.out.alloc _) (Nat.le_refl _) P4
                      have oj4 := oj.grow (HOo.out.alloc _) (Nat.le_refl _) P4
                      have hb4 := (hb.alloc hs _).grown G4 (by simp; omega) (fun k hk => (HOj.out.lt k hk).1)
                      rw [← NE.out] at O4
                      clear G4 P4)
                    go_roundw
                    case rel => exact ⟨t + 1, by omega, by go_num, Oi4, O4, Oo4, ij4, oi, oj4, hb4⟩
                    case measure => simp [intOf]; omega
                  · have t0 : ¬ ((56 - 8 * (t : Int)) ≥ 0) := by omega
                    have et : e8.take t = e8 := List.take_of_length_le (by rw [HE8.out]; omega)
                    rw [et] at HOj
                    have lJ : (JP ++ e8).length + pl ≤ 1000000000 := by rw [List.length_append, HE8.out]; have := LJ.out; have := HM.out; omega
                    have LJ2 := Lib.hid lJ
                    clear et lJ
                    go_wp2_with (
                      at_builtin; refine wpl_append rfl _ _ _ rfl info_byte Tryd.underlying22 w.heap.size _ (JP ++ e8) rfl HOj.out Aj cj pl p rfl HPL.out (HCj.out.below hb) (by rw [← HPL.out]; have := LJ2.out; omega) hs ?_
                      intro v4 w4 O4 G4 P4
                      have Oi4 := HOi.out.far G4 ij
                      have Oo4 := HOo.out.far G4 oj
                      have ij4 := ij.grow HOi.out (Nat.le_refl _) P4
                      have oj4 := oj.grow HOo.out (Nat.le_refl _) P4
                      have hb4 := hb.grown G4 hs (fun k hk => (HOj.out.lt k hk).1)
                      rw [← NJ.out] at O4
                      clear G4 P4)
                    go_roundw
                    case rel => exact ⟨j + 1, by omega, by go_num, Oi4, O4, Oo4, ij4, oi, oj4, hb4⟩
                    case measure => simp [intOf]; omega
              · have t0 : ¬ ((j : Int) < (n : Int)) := by omega
                have hjn : j = ps.length := by have := HN.out; omega
                have e1 : P ++ (ps.take j).flatten = I := by rw [HI.out, HP.out, hjn, List.take_length]
                have e2 : joinOf (ps.take j) = joinOf ps := by rw [hjn, List.take_length]
                rw [e1] at Oi
                rw [e2] at Oj
                have aI : All 256 I := by rw [HI.out, ← HP.out]; exact AP.out.app (flat_all HA.out)
                have lI : I.length ≤ 1000000064 := by rw [HI.out, List.length_append, ← HP.out, LP.out]; have := HFJ.out; have := HM.out; omega
                have aJ : All 256 (joinOf ps) := joinOf_all HA.out
                obtain ⟨J, hJ⟩ : ∃ J, J = joinOf ps := ⟨_, rfl⟩
                have lJ : J.length ≤ 1000000000 := by rw [hJ]; exact HM.out
                rw [← hJ] at Oj aJ
                have sJ : sumOf J = E := by rw [hJ]; exact HE.out.symm
                have AI := Lib.hid aI; have LI := Lib.hid lI; have AJ := Lib.hid aJ; have LJ := Lib.hid lJ; have SJ := Lib.hid sJ
                have HOi := Lib.hid Oi; have HOj := Lib.hid Oj; have HOo := Lib.hid Oo
                clear hJ aI lI aJ lJ sJ e1 e2 hjn Oi Oj Oo
                obtain ⟨Ai, ni, ci, hni, hvi, hCi⟩ := HOi.out.arg_
                subst hvi
                obtain ⟨Ajj, nj, cj, hnj, hvj, hCj⟩ := HOj.out.arg_
                subst hvj
                have HNI := Lib.hid hni; have HNJ := Lib.hid hnj; have HCI := Lib.hid hCi; have HCJ := Lib.hid hCj
                clear hni hnj hCi hCj
                have HJO := oj.symm
                go_wp2_with (first
                  | (go_at_call 14; (with_reducible refine (HSUM.out I SI HSI.out.symm _ _ _ _ hb HNI.out (by have := HNI.out; have := LI.out; omega) (Own.c8 HOi.out).2.1 AI.out HCI.out).mono ?_)
                     rintro e w2 ⟨rfl, hb2⟩
                     have hb2' := hb.trans (hb2.mono hs)
                     have Oj2 := HOj.out.below hb2
                     have Oo2 := HOo.out.below hb2
                     clear hb2)
                  | (refine wpl_store rfl 24 _ _ rfl w2.heap.size 0 rfl 24 [] ((List.replicate 32 0).map v8) [] (SI.map v8) rfl (by rw [List.nil_append, List.append_nil]; exact Blk.new w2 24 (c8 (List.replicate 32 0))) rfl (by rw [List.length_map, HSIL.out]; rfl) (by rw [List.length_map, HSIL.out]; kernel_rfl) (v8_one _) ?_; intro w13 B13 O13
                     have hb13 : Below w.heap.size w w13 := O13.below (hb2'.alloc hb2'.size _) hb2'.size
                     have Oj13 := Oj2.only_new O13
                     have Oo13 := Own.only_new Oo2 O13
                     have C13 : C8 w13 (some ⟨w2.heap.size, 0, none⟩) SI.length SI := by rw [HSIL.out]; exact C8.of_Blk B13 32 HSIL.out.symm (by omega)
                     clear O13 hb2' B13 Oj2 Oo2)
                  | (at_builtin; refine wpl_append rfl _ _ _ rfl info_byte Tryd.underlying22 w.heap.size _ Q rfl Oo13 _ 32 32 SI rfl HSIL.out.symm C13 (by rw [HSIL.out, LQ.out]; simp) hb13.size ?_
                     intro v14 w14 O14 G14 P14
                     have Oj14 := Oj13.far G14 HJO
                     have hb14 := hb13.grown G14 hb13.size (fun k hk => (Oo13.lt k hk).1)
                     obtain ⟨A14, n14, c14, hn14, hv14, hC14⟩ := O14.arg_
                     subst hv14
                     have HN14 := Lib.hid hn14
                     clear G14 P14 Oj13 Oo13 C13 hb13 hn14)
                  | (go_at_call 15; (with_reducible refine (HLIVE.out _ hb14).mono ?_); rintro e w15 ⟨rfl, hb15⟩
                     have O15 := O14.below hb15
                     have Oj15 := Oj14.below hb15
                     have hb15' := hb14.trans (hb15.mono hb14.size)
                     clear O14 Oj14 hb15 hC14)
                  | (at_builtin; refine wplw_append (by first | rfl | simp [Region.wanted, yielded]) _ _ _ rfl info_byte Tryd.underlying22 w15.heap.size (.slice (some ⟨w15.heap.size, 0, none⟩) 0 0) [] rfl (Own.nil_alloc w15 _ _ rfl (Nat.le_refl _)) A c kl key rfl HKN.out
                       (HK.out.below (hb15'.alloc hb15'.size _)) (by rw [← HKN.out]; simp; omega) (by simp) ?_
                     intro v16 w16 O16 G16 P16
                     rw [List.nil_append] at O16
                     have hb16 : Below w15.heap.size w15 w16 := ((Below.refl _ _).alloc (Nat.le_refl _) _).grown G16 (by simp) (by simp [Value.ownBlock])
                     obtain ⟨A16, n16, c16, hn16, hv16, hC16⟩ := O16.arg_
                     subst hv16
                     have HN16 := Lib.hid hn16
                     have O17 := O15.below hb16
                     have Oj17 := Oj15.below hb16
                     have hb16' := hb15'.trans (hb16.mono hb15'.size)
                     clear G16 P16 O15 Oj15 hb16 hn16)
                  | (go_at_call 23; (with_reducible refine (HMAC.out _ hb16' _ _ _ HN16.out (Own.c8 O16).2.1 hC16).mono ?_); rintro e w18 ⟨rfl, hb18⟩
                     have O18 := O17.below hb18
                     have Oj18 := Oj17.below hb18
                     have hb18' := hb16'.trans (hb18.mono hb16'.size)
                     clear O16 O17 Oj17 hb18 hC16)
                  | (go_at_call 14; (with_reducible refine (HSUM.out (Q ++ SI) D (by rw [HQ.out]; exact HD.out) _ _ _ _ hb18' HN14.out (by rw [HN14.out, List.length_append, LQ.out, HSIL.out]; omega) (Own.c8 O18).2.1 (AQ.out.app HSIA.out) (Own.c8 O18).2.2).mono ?_)
                     rintro e w19 ⟨rfl, hb19⟩
                     have Oj19 := Oj18.below hb19
                     have hb19' := hb18'.trans (hb19.mono hb18'.size)
                     clear O18 Oj18 hb19)
                  | (go_at_call 24; (with_reducible refine (HJOIN.out _ hb19').mono ?_); rintro e w20 ⟨rfl, hb20⟩
                     have Oj20 := Oj19.below hb20
                     have hb20' := hb19'.trans (hb20.mono hb19'.size)
                     clear Oj19 hb20)
                  | (go_at_call 14; (with_reducible refine (HSUM.out J E SJ.out _ _ _ _ hb20' HNJ.out (by have := HNJ.out; have := LJ.out; omega) (Own.c8 Oj20).2.1 AJ.out (Own.c8 Oj20).2.2).mono ?_)
                     rintro e w21 ⟨rfl, hb21⟩
                     have hb21' := hb20'.trans (hb21.mono hb20'.size)
                     clear Oj20 hb21))
                go_ret
                exact ⟨rfl, hb21'⟩
end Go.Proofs.YtfedlgcpgfofjaaDoor.Sha
