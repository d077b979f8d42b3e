/-
  The reference's bytes, coded, Device, Auth, User: what the calls do, walked.
-/
import Derived.Test.YtaeipffenlkjpaaCRef
namespace Go.Proofs.Ytaeipffenlkjpaa.Sha
open Go.RowKit Go.Proofs.YtaeipffenlkjpaaW.PrintWords Go.Proofs.Ytaeipffenlkjpaa.PAll Go.Proofs.Ytaeipffenlkjpaa.Plain Go.Proofs.Ytaeipffenlkjpaa.Cod
set_option linter.unusedVariables false
set_option linter.unusedSimpArgs false
theorem RSrc.all {w : World} {f : Nat → Nat} {i g : Nat} {L : List Nat} (h : RSrc w f i g L) : All 256 L := h.2.2.1
theorem RSrc.lt {w : World} {f : Nat → Nat} {i g : Nat} {L : List Nat} (h : RSrc w f i g L) : g < w.heap.size := by
  obtain ⟨_, _, _, v, hB, _⟩ := h
  exact hB.lt
set_option maxRecDepth 100000 in
set_option maxHeartbeats 1000000 in
theorem rbytes_any (f : Nat → Nat) (i g n : Nat) (L : List Nat) (w : World) (h : RSrc w f i g L) (hn : n ≤ 1000) :
    Calls Try.prog 50 #[.pointer (some ⟨g, 0, none⟩), .int .i64 (n : Int)] w fun e w' => ∃ v f', e = .returned (.tuple #[v, .int .i64 ((took n L).2.1 : Nat)]) ∧ Ext w f f' ∧ RSrc w' f' i g (took n L).2.2 ∧ Far (fun k => k = g) w w' ∧
      (n ≤ L.length → Own w' w.heap.size v (L.take n)) ∧ (¬ n ≤ L.length → v = .slice none 0 0) := by
  have hg := h.lt
  have hL := h.all
  have hi : i + 1 ≠ i := by omega
  have h0 : ∃ f', Ext w f f' ∧ RSrc w f' i g (L.drop 0) ∧ ∀ q, (Value.slice none 0 0).ownBlock = some q → f' q = i + 1 := ⟨f, Ext.refl _ _, by rw [List.drop_zero]; exact h, fun q e => by cases e⟩
  obtain ⟨T, hT⟩ : ∃ T, T = took n L := ⟨_, rfl⟩
  rw [← hT]
  have HT := Lib.hid hT; have HL := Lib.hid hL; have HI := Lib.hid hi
  clear h hT hL hi
  have i0 : (n : Int) ≤ 1000 := by omega
  go_enter Try.func50, Try.ntmps50
  go_wp2
  go_loopw [6, 7] (fun v j wr => ∃ k : Nat, k ≤ n ∧ j = .int .i64 (k : Int) ∧ k ≤ L.length ∧ (∃ f', Ext w f f' ∧ RSrc wr f' i g (L.drop k) ∧ ∀ q, v.ownBlock = some q → f' q = i + 1) ∧ Own wr w.heap.size v (L.take k) ∧ Far (fun k => k = g) w wr) (fun _ j _ => n - (intOf j).toNat)
  case atStart => exact ⟨0, by omega, rfl, by omega, h0, Own.nil _ _, Far.refl _ _⟩
  case round =>
    clear h0
    obtain ⟨k, hk, rfl, hkL, ⟨f', he, S0, hm⟩, O, F⟩ := hrel
    have HE := Lib.hid he; have HM := Lib.hid hm
    clear he hm
    by_cases hlt : k < n
    · have d1 : decide ((k : Int) < (n : Int)) = true := decide_eq_true (by omega)
      cases hd : L.drop k with
      | nil =>
        rw [hd] at S0
        have hcall := rbyte_nil f' i g wr S0
        have HS := Lib.hid S0; have HD := Lib.hid hd
        clear O S0 hd
        go_wp2_with (go_at_call 37; (with_reducible refine hcall.mono ?_); rintro e w1 ⟨rfl, rfl⟩)
        have hl : ¬ n ≤ L.length := by
          have h1 := congrArg List.length HD.out
          rw [List.length_drop] at h1
          simp at h1
          omega
        have e : T = (⟨#[]⟩, 90, []) := by rw [HT.out]; unfold took; rw [if_neg hl]
        go_ret2
        rw [e]
        exact ⟨_, f', rfl, HE.out, HS.out, F, fun h => absurd h hl, fun _ => rfl⟩
      | cons x M =>
        obtain ⟨e1, e2, e3⟩ := drop_succ hd
        rw [hd] at S0
        have hcall := rbyte_cons f' i g x M wr S0
        have HO := Lib.hid O; have E1 := Lib.hid e1; have E2 := Lib.hid e2
        have hl : (L.take k).length ≤ 1000 := by rw [List.length_take]; omega
        clear O S0 hd e1 e2
        go_wp2_with (first
          | (go_at_call 37; (with_reducible refine hcall.mono ?_); rintro e w1 ⟨rfl, S1, F1⟩
             have O1 := HO.out.farK F1 hg
             have hz := F1.size)
          | (at_builtin; go_loud (refine wpl_append rfl _ _ _ rfl info_byte Try.underlying31 w.heap.size _ (L.take k) rfl (O1.alloc _) _ _ _ [x] rfl rfl (C8.one_ _ _ _ rfl _ rfl) (by rw [List.length_singleton]; omega) (by have := F.size; simp; omega) ?_); intro v' w2 O2 G2 hv2))
        go_roundw
        case rel =>
          have Fa := Far.alloc (fun _ => False) w1 (.cells #[.int .u8 (x : Int)] 5)
          have hu : ∀ q, u6.ownBlock = some q → col f' wr.heap.size i q = i + 1 := fun q hq => by
            rw [col_ext wr f' i q (own_lt HO.out q hq)]
            exact HM.out q hq
          have S2 : RSrc (w1.alloc (.cells #[.int .u8 (x : Int)] 5)) (col f' wr.heap.size i) i g M := S1.far (Ext.refl _ _) Fa (fun _ _ _ h => h)
          have R1 : Row (w1.alloc (.cells #[.int .u8 (x : Int)] 5)) (col f' wr.heap.size i) (i + 1) u6 (L.take k) := ⟨(O1.alloc _).weak (Nat.zero_le _), hu⟩
          have R2 := R1.grown (O2.weak (Nat.zero_le _)) hv2
          have S3 := S2.keep (w' := w2) (col_ext _ _ (i + 1)) (fun q hq e => G2.block q hq (fun e2 => HI.out (by rw [← hu q e2.symm, e])))
          refine ⟨k + 1, by omega, by go_num, e3, ⟨_, ?_, by rw [E1.out]; exact S3, R2.2⟩, by rw [E2.out]; exact O2, ?_⟩
          · exact (HE.out.trans (col_ext wr f' i) F.size).trans (col_ext _ _ (i + 1)) (by have := F.size; simp; omega)
          · have F2 : Far (fun k => k = g) w w1 := F.trans F1 (fun _ _ h => h)
            have F3 : Far (fun k => k = g) w _ := F2.trans Fa (fun _ _ h => h.elim)
            refine F3.trans (Far.of_grown G2) (fun q hq e => ?_)
            have := own_base (O1.alloc (.cells #[.int .u8 (x : Int)] 5)) q e
            omega
        case measure => simp [intOf]; omega
    · have d1 : decide ((k : Int) < (n : Int)) = false := decide_eq_false (by omega)
      have ek : k = n := by omega
      have e : T = (b64 (L.take k), 0, L.drop k) := by rw [HT.out]; unfold took; rw [if_pos (by omega), ek]
      have HK := Lib.hid ek; have HT2 := Lib.hid e
      clear ek e
      go_wp2
      go_ret2
      rw [HT2.out]
      exact ⟨_, f', rfl, HE.out, S0, F, fun _ => by rw [← HK.out]; exact O, fun h => absurd (by have := HK.out; omega) h⟩
theorem Own.form {w : World} {base : Nat} {v : Value} {p : List Nat} (h : Own w base v p) : ∃ A c, v = .slice A p.length c := by
  obtain ⟨A, c, e, _⟩ := h.arg
  exact ⟨A, c, e⟩
set_option maxHeartbeats 1000000 in
theorem coded_any (f : Nat → Nat) (i g n : Nat) (L : List Nat) (w : World) (h : RSrc w f i g L) (hn : n ≤ 1000) :
    Calls Try.prog 46 #[.pointer (some ⟨g, 0, none⟩), .int .i64 (n : Int)] w fun e w' => ∃ f', e = .returned (.tuple #[.string (took n L).1, .int .i64 ((took n L).2.1 : Nat)]) ∧ Ext w f f' ∧ RSrc w' f' i g (took n L).2.2 ∧ Far (fun k => k = g) w w' := by
  have hcall := rbytes_any f i g n L w h hn
  have hL := h.all
  clear h
  by_cases hl : n ≤ L.length
  · have e : took n L = (b64 (L.take n), 0, L.drop n) := by unfold took; rw [if_pos hl]
    rw [e] at hcall ⊢
    have HC := Lib.hid hcall
    have htl : (L.take n).length = n := by rw [List.length_take]; omega
    have HTL := Lib.hid htl; have HLL := Lib.hid hl
    clear hcall e htl hl
    go_enter Try.func46, Try.ntmps46
    go_wp2_with (first
      | (go_at_call 50; (with_reducible refine HC.out.mono ?_); rintro e w1 ⟨v, f', rfl, he, S1, F1, ho, _⟩
         have O1 := ho HLL.out
         obtain ⟨A, c, e1, hc, hC1⟩ := O1.arg
         rw [HTL.out] at e1 hc hC1
         subst e1
         have H1 := Lib.hid he; have H2 := Lib.hid S1; have H3 := Lib.hid hC1
         clear ho O1 he S1 hC1)
      | (go_at_call 51; (refine (rtob64_any (L.take n) _ n _ _ HTL.out.symm (by omega) hc (hL.take n) (by rw [HTL.out]; exact H3.out)).mono ?_); rintro e w2 ⟨rfl, hb2⟩))
    go_ret2
    exact ⟨f', rfl, H1.out, H2.out.below hb2, F1.trans (Far.of_below hb2) (fun _ _ h => h)⟩
  · have e : took n L = (⟨#[]⟩, 90, []) := by unfold took; rw [if_neg hl]
    rw [e] at hcall ⊢
    have HC := Lib.hid hcall
    have HLL := Lib.hid hl
    clear hcall e hl
    go_enter Try.func46, Try.ntmps46
    go_wp2_with (go_at_call 50; (with_reducible refine HC.out.mono ?_); rintro e w1 ⟨v, f', rfl, he, S1, F1, _, ho⟩
                 have e1 := ho HLL.out
                 subst e1
                 have H1 := Lib.hid he; have H2 := Lib.hid S1
                 clear ho he S1)
    go_ret2
    exact ⟨f', rfl, H1.out, H2.out, F1⟩
theorem rdevice_any (f : Nat → Nat) (i g : Nat) (L : List Nat) (w : World) (h : RSrc w f i g L) :
    Calls Try.prog 38 #[.pointer (some ⟨g, 0, none⟩)] w fun e w' => ∃ f', e = .returned (.tuple #[.string (took 32 L).1, .int .i64 ((took 32 L).2.1 : Nat)]) ∧ Ext w f f' ∧ RSrc w' f' i g (took 32 L).2.2 ∧ Far (fun k => k = g) w w' := by
  have hcall := coded_any f i g 32 L w h (by decide)
  rw [show ((32 : Nat) : Int) = 32 from rfl] at hcall
  obtain ⟨T, hT⟩ : ∃ T, T = took 32 L := ⟨_, rfl⟩
  rw [← hT] at hcall ⊢
  clear hT h
  go_enter Try.func38, Try.ntmps38
  go_wp2_with (go_at_call 46; (with_reducible refine hcall.mono ?_); rintro e w1 ⟨f', rfl, he, S1, F1⟩; have H1 := Lib.hid he; clear he)
  go_ret2
  exact ⟨f', rfl, H1.out, S1, F1⟩
theorem rauth_any (f : Nat → Nat) (i g : Nat) (L : List Nat) (w : World) (h : RSrc w f i g L) :
    Calls Try.prog 39 #[.pointer (some ⟨g, 0, none⟩)] w fun e w' => ∃ f', e = .returned (.tuple #[.string (took 24 L).1, .int .i64 ((took 24 L).2.1 : Nat)]) ∧ Ext w f f' ∧ RSrc w' f' i g (took 24 L).2.2 ∧ Far (fun k => k = g) w w' := by
  have hcall := coded_any f i g 24 L w h (by decide)
  rw [show ((24 : Nat) : Int) = 24 from rfl] at hcall
  obtain ⟨T, hT⟩ : ∃ T, T = took 24 L := ⟨_, rfl⟩
  rw [← hT] at hcall ⊢
  clear hT h
  go_enter Try.func39, Try.ntmps39
  go_wp2_with (go_at_call 46; (with_reducible refine hcall.mono ?_); rintro e w1 ⟨f', rfl, he, S1, F1⟩; have H1 := Lib.hid he; clear he)
  go_ret2
  exact ⟨f', rfl, H1.out, S1, F1⟩
theorem txt_inj {a b : ByteArray} (h : sN a = sN b) : a = b := by rw [← txt_sN a, ← txt_sN b, h]
theorem sN_app (a b : ByteArray) : sN (a ++ b) = sN a ++ sN b := by
  unfold sN
  rw [ByteArray.data_append, Array.toList_append, List.map_append]
theorem txt_app (a b : List Nat) (ha : All 256 a) (hb : All 256 b) : txt (a ++ b) = txt a ++ txt b := by
  apply txt_inj
  rw [sN_txt _ (ha.app hb), sN_app, sN_txt _ ha, sN_txt _ hb]
theorem LS_cut : ∀ k, k < 20 → LS.extract k (k + 1) = txt [lets.getD k 0] := fun k hk => by
  apply txt_inj
  revert k
  decide +kernel
set_option maxRecDepth 100000 in
set_option maxHeartbeats 2000000 in
theorem ruser_any (f : Nat → Nat) (i g : Nat) (L : List Nat) (w : World) (h : RSrc w f i g L) :
    Calls Try.prog 40 #[.pointer (some ⟨g, 0, none⟩)] w fun e w' => ∃ f', e = .returned (.tuple #[.string (txt (user [] L).1), .int .i64 ((user [] L).2.1 : Nat)]) ∧ Ext w f f' ∧ RSrc w' f' i g (user [] L).2.2 ∧ Far (fun k => k = g) w w' := by
  have hL := h.all
  have h0 : ∃ f', Ext w f f' ∧ RSrc w f' i g L := ⟨f, Ext.refl _ _, h⟩
  have hlet : Calls Try.prog 21 #[] w fun e w' => e = .returned (.string LS) ∧ w = w' := by
    go_enter Try.func21, Try.ntmps21
    go_wp2
    go_ret
    exact ⟨rfl, rfl⟩
  obtain ⟨T, hT⟩ : ∃ T, user [] L = T := ⟨_, rfl⟩
  rw [hT]
  have HL := Lib.hid hL; have HZ := Lib.hid LS_size; have HCUT := Lib.hid LS_cut
  obtain ⟨S, hS⟩ : ∃ S, S = LS := ⟨_, rfl⟩
  rw [← hS] at hlet HZ HCUT
  clear h hL hS
  go_enter Try.func40, Try.ntmps40
  go_wp2_with (go_at_call 21; (with_reducible refine hlet.mono ?_); rintro e w1 ⟨rfl, rfl⟩)
  go_loopg [5, 6, 7, 8] L.length (fun gk v5 v6 v7 v8 wr => ∃ acc M, v5 = .string (txt acc) ∧ M.length = gk ∧ All 256 acc ∧ ((acc.length ≤ 7 ∧ user acc M = T) ∨ (acc.length = 8 ∧ T = (acc, 0, M))) ∧ All 256 M ∧ (∃ f', Ext w f f' ∧ RSrc wr f' i g M) ∧ Far (fun k => k = g) w wr)
  case atStart => exact ⟨[], L, rfl, rfl, All.nil, .inl ⟨by simp, hT⟩, HL.out, h0, Far.refl _ _⟩
  case round =>
    clear h0 hT
    obtain ⟨acc, M, rfl, hMl, hacc, hor, hM, ⟨f', he, S0⟩, F⟩ := hrel
    have HE := Lib.hid he; have HAC := Lib.hid hacc
    obtain ⟨s, hs⟩ : ∃ s, s = txt acc := ⟨_, rfl⟩
    have hsz : s.size = acc.length := by rw [hs]; exact txt_size acc
    rw [← hs]
    have HSZ := Lib.hid hsz; have HSS := Lib.hid hs
    clear he hacc
    rcases hor with ⟨h7, hT⟩ | ⟨h8, hT⟩
    · have i1 : (s.size : Int) < 8 := by omega
      have i4 : s.size ≤ 8 := by omega
      cases M with
      | nil =>
        have e : T = ([], 90, []) := by rw [← hT]; rfl
        have hcall := rbyte_nil f' i g wr S0
        have HT := Lib.hid e; have HS := Lib.hid S0
        clear hT e S0 hMl hs hsz
        go_wp2_with (go_at_call 37; (with_reducible refine hcall.mono ?_); rintro e w1 ⟨rfl, rfl⟩)
        go_ret2
        rw [HT.out]
        exact ⟨f', rfl, HE.out, HS.out, F⟩
      | cons x M =>
        have hcall := rbyte_cons f' i g x M wr S0
        have hx : x < 256 := hM x (by simp)
        have HM := Lib.hid hM; have HT := Lib.hid hT; have HL2 := Lib.hid hMl
        have i2 : (0 : Int) ≤ (x : Int) := by omega
        have i3 : (x : Int) < 256 := by omega
        obtain ⟨gk', hgk⟩ : ∃ gk', gk = gk' + 1 := ⟨M.length, by simpa using hMl.symm⟩
        have HGK := Lib.hid hgk
        clear hT S0 hMl hM hs hsz
        by_cases hx2 : x < 240
        · have d2 : decide ((x : Int) < 240) = true := decide_eq_true (by omega)
          obtain ⟨y, hy⟩ : ∃ y, y = lets.getD (x % 20) 0 := ⟨_, rfl⟩
          have hy256 : y < 256 := by have := lets_small y (by rw [hy]; exact lets_mod x); omega
          obtain ⟨u, hu⟩ : ∃ u, u = txt [y] := ⟨_, rfl⟩
          have hu1 : u.size ≤ 1 := by rw [hu, txt_size]; simp
          have hcut : ∀ W : World, (Instr.slice 9 (.string S) (some (.int .i64 ((x : Int) % 20))) (some (.int .i64 ((x : Int) % 20 + 1))) none).run Try.prog W = .ok (.string u) W := fun W => by
            have hk : x % 20 < 20 := Nat.mod_lt _ (by decide)
            rw [run_slice_string W 9 S .i64 .i64 ((x : Int) % 20) ((x : Int) % 20 + 1) Try.underlying9 (by omega) (by omega) (by have := HZ.out; omega), hu, hy, ← HCUT.out (x % 20) hk]
            rw [show ((x : Int) % 20).toNat = x % 20 by omega, show ((x : Int) % 20 + 1).toNat = x % 20 + 1 by omega]
          have HY := Lib.hid hy; have HU := Lib.hid hu
          clear hy hu
          subst hgk
          go_wp2_with (go_at_call 37; (with_reducible refine hcall.mono ?_); rintro e w1 ⟨rfl, S1, F1⟩)
          go_roundg gk'
          case rel =>
            refine ⟨acc ++ [y], M, ?_, by have := HL2.out; simpa using this, HAC.out.app (All.one hy256), ?_, fun z hz => HM.out z (by simp [hz]), ⟨_, HE.out.trans (col_ext wr f' i) F.size, S1⟩, F.trans F1 (fun _ _ h => h)⟩
            · rw [HSS.out, HU.out, txt_app _ _ HAC.out (All.one hy256)]
            · have hT := HT.out
              unfold user at hT
              rw [if_pos hx2, ← HY.out] at hT
              by_cases h8 : acc.length = 7
              · rw [if_pos h8] at hT
                exact .inr ⟨by simp; omega, hT.symm⟩
              · rw [if_neg h8] at hT
                exact .inl ⟨by simp; omega, hT⟩
          case measure => omega
        · have d2 : decide ((x : Int) < 240) = false := decide_eq_false (by omega)
          subst hgk
          go_wp2_with (go_at_call 37; (with_reducible refine hcall.mono ?_); rintro e w1 ⟨rfl, S1, F1⟩)
          go_roundg gk'
          case rel =>
            refine ⟨acc, M, by rw [HSS.out], by have := HL2.out; simpa using this, HAC.out, .inl ⟨h7, ?_⟩, fun z hz => HM.out z (by simp [hz]), ⟨_, HE.out.trans (col_ext wr f' i) F.size, S1⟩, F.trans F1 (fun _ _ h => h)⟩
            rw [← HT.out]
            conv => rhs; unfold user
            rw [if_neg hx2]
          case measure => omega
    · have i1 : decide ((s.size : Int) < 8) = false := decide_eq_false (by omega)
      have HT := Lib.hid hT; have HS := Lib.hid S0
      clear hT S0 hMl h8 hs hsz
      go_wp2
      go_ret2
      rw [HT.out]
      exact ⟨f', by rw [HSS.out]; rfl, HE.out, HS.out, F⟩
end Go.Proofs.Ytaeipffenlkjpaa.Sha
