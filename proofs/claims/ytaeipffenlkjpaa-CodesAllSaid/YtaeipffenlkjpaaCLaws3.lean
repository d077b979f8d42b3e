/-
  CodesAll: what the call does, walked; as the row hands it on.
-/
import Derived.Test.YtaeipffenlkjpaaCLive
namespace Go.Proofs.Ytaeipffenlkjpaa.Sha
open Go.RowKit Go.Proofs.YtaeipffenlkjpaaW.PrintWords Go.Proofs.Ytaeipffenlkjpaa.PAll Go.Proofs.Ytaeipffenlkjpaa.Plain Go.Proofs.Ytaeipffenlkjpaa.Cod
set_option linter.unusedVariables false
set_option linter.unusedSimpArgs false
theorem lets_place : ∀ x ∈ lets, lets.idxOf x < 20 ∧ lets.getD (lets.idxOf x) 0 = x ∧ ∀ k, k < lets.idxOf x → lets.getD k 0 ≠ x := by decide +kernel
theorem letters_q (w : World) : Calls Try.prog 21 #[] w fun e w' => e = .returned (.string LS) ∧ w = w' := by
  go_enter Try.func21, Try.ntmps21
  go_wp2
  go_ret
  exact ⟨rfl, rfl⟩
theorem LS_idx64 (k : Nat) (W : World) (hk : k < 20) : (Instr.index 9 (.string LS) (.int .i64 (k : Int))).run Try.prog W = .ok (.int .u8 (lets.getD k 0 : Nat)) W := by
  have e := LS_get k hk
  have hz := LS_size
  obtain ⟨S, hS⟩ : ∃ S, S = LS := ⟨_, rfl⟩
  rw [← hS] at e hz ⊢
  have hlt : k < S.size := by omega
  have e2 : (S[k]'hlt).toNat = lets.getD k 0 := by
    rw [← e, List.getD_eq_getElem?_getD, List.getElem?_eq_getElem (by simpa using hlt)]
    rfl
  rw [← e2]
  clear hS e e2 hz hk
  go_simp
theorem str_idx64 (s : ByteArray) (i : Nat) (W : World) (hlt : i < s.size) : (Instr.index 9 (.string s) (.int .i64 (i : Int))).run Try.prog W = .ok (.int .u8 ((sN s).getD i 0 : Nat)) W := by
  have e : (s[i]'hlt).toNat = (sN s).getD i 0 := by
    unfold sN
    rw [List.getD_eq_getElem?_getD, List.getElem?_map, List.getElem?_eq_getElem (by simpa using hlt)]
    rfl
  rw [← e]
  go_simp
set_option maxRecDepth 100000 in
set_option maxHeartbeats 4000000 in
theorem all_law (s : ByteArray) (how : List Nat) (A1 : Option Addr) (n1 c1 : Nat) (W : World) (hs : s.size ≤ 140737488355328) (hn1 : n1 = how.length) (hl1 : n1 ≤ 140737488355328) (hh : All 256 how) (hc1 : n1 ≤ c1) (hC1 : C8 W A1 how.length how) :
    Calls Try.prog 6 #[.string s, .slice A1 n1 c1] W fun e w' => e = .returned (.bool true) ∧ Below W.heap.size W w' := by
  have h1 := fun V : World => rcode_any s V hs
  cases hc : isCode (sN s) with
  | false =>
    rw [hc] at h1
    have h2 : ∀ V : World, Calls Try.prog 15 #[.string s] V fun e w' => e = .returned (.string ⟨#[]⟩) ∧ Below V.heap.size V w' := fun V => by
      have h := show_any s V
      unfold shown at h
      rw [hc, if_neg (by simp)] at h
      exact h
    have H1 := Lib.hid h1; have H2 := Lib.hid h2
    clear h1 h2 hc hn1 hC1 hh
    go_enter Try.func6, Try.ntmps6
    go_wp2_with (first
      | (go_at_call 20; (with_reducible refine (H1.out _).mono ?_); rintro e w1 ⟨rfl, hb1⟩)
      | (go_at_call 15; (with_reducible refine (H2.out _).mono ?_); rintro e w2 ⟨rfl, hb2⟩
         have hb2' := hb1.trans (hb2.mono hb1.size))
      | (go_at_call 12; (with_reducible refine (live_any _).mono ?_); rintro e w3 ⟨rfl, hb3⟩
         have hb3' := hb2'.trans (hb3.mono hb2'.size)))
    go_ret
    exact ⟨rfl, hb3'⟩
  | true =>
    rw [hc] at h1
    have h8 := isCode_spec.1 hc
    have hsz : s.size = 8 := by rw [← sN_len]; exact h8.1
    obtain ⟨S, hS⟩ : ∃ S, S = LS := ⟨_, rfl⟩
    have hlet := letters_q
    have hLx := LS_idx64
    rw [← hS] at hlet hLx
    have H1 := Lib.hid h1; have HLET := Lib.hid hlet; have HLX := Lib.hid hLx; have H8 := Lib.hid h8; have HSZ := Lib.hid hsz; have HC := Lib.hid hC1; have HH := Lib.hid hh; have HN := Lib.hid hn1
    have i0 : s.size ≤ 8 := by omega
    clear h1 hlet hLx h8 hsz hC1 hh hn1 hS hc hs
    go_enter Try.func6, Try.ntmps6
    go_wp2_with (first
      | (go_at_call 20; (with_reducible refine (H1.out _).mono ?_); rintro e w1 ⟨rfl, hb1⟩)
      | (go_at_call 21; (with_reducible refine (HLET.out _).mono ?_); rintro e w2 ⟨rfl, rfl⟩))
    go_loopw [6, 7, 8, 9] (fun v6 v7 v8 v9 wr => ∃ (i : Nat) (ps : List Nat), i ≤ s.size ∧ v7 = .int .i64 (i : Int) ∧ ps.length = i ∧ (∀ y ∈ ps, y < 240) ∧ ps.map (fun k => lets.getD (k % 20) 0) = (sN s).take i ∧ Own wr W.heap.size v6 ps ∧ Below W.heap.size W wr) (fun _ v7 _ _ _ => s.size - (intOf v7).toNat)
    case atStart => exact ⟨0, [], by omega, rfl, rfl, (fun y hy => by cases hy), rfl, Own.nil _ _, hb1⟩
    case round =>
      clear hb1
      obtain ⟨i, ps, hi, rfl, hpl, hp240, hmap, O, hb⟩ := hrel
      by_cases hlt : i < s.size
      · obtain ⟨x, hx⟩ : ∃ x, x = (sN s).getD i 0 := ⟨_, rfl⟩
        have hxl : x ∈ lets := H8.out.2 x (by rw [hx, List.getD_eq_getElem?_getD, List.getElem?_eq_getElem (by rw [sN_len]; exact hlt)]; simp)
        obtain ⟨hp1, hp2, hp3⟩ := lets_place x hxl
        obtain ⟨ix, hix⟩ : ∃ ix, ix = lets.idxOf x := ⟨_, rfl⟩
        rw [← hix] at hp1 hp2 hp3
        have hsx : ∀ V : World, (Instr.index 9 (.string s) (.int .i64 (i : Int))).run Try.prog V = .ok (.int .u8 (x : Int)) V := fun V => by rw [str_idx64 s i V hlt, ← hx]
        have hnext : (sN s).take (i + 1) = (sN s).take i ++ [x] := by
          rw [List.take_succ_eq_append_getElem (by rw [sN_len]; exact hlt), hx, List.getD_eq_getElem?_getD, List.getElem?_eq_getElem (by rw [sN_len]; exact hlt)]
          rfl
        have HO := Lib.hid O; have HPL := Lib.hid hpl; have HP240 := Lib.hid hp240; have HMAP := Lib.hid hmap; have HX := Lib.hid hx; have HP2 := Lib.hid hp2; have HP3 := Lib.hid hp3; have HNX := Lib.hid hnext; have HB := Lib.hid hb
        clear O hpl hp240 hmap hx hp2 hp3 hnext hix hxl hb
        go_wp2
        obtain ⟨wo, rfl⟩ : ∃ wo : World, wo = wr := ⟨_, rfl⟩
        go_loopw [8] (fun v8 ws => ∃ k : Nat, k ≤ ix ∧ v8 = .int .i64 (k : Int) ∧ Own ws W.heap.size u6 ps ∧ Below W.heap.size W ws) (fun v8 _ => ix - (intOf v8).toNat)
        case atStart => exact ⟨0, by omega, rfl, HO.out, HB.out⟩
        case round =>
          clear HO HB
          obtain ⟨k, hk, rfl, O, hb⟩ := hrel
          have HO := Lib.hid O; have HB := Lib.hid hb
          have hSx : ∀ V : World, (Instr.index 9 (.string S) (.int .i64 (k : Int))).run Try.prog V = .ok (.int .u8 (lets.getD k 0 : Nat)) V := fun V => HLX.out k V (by omega)
          obtain ⟨y, hy⟩ : ∃ y, y = lets.getD k 0 := ⟨_, rfl⟩
          rw [← hy] at hSx
          by_cases hki : k = ix
          · have hyx : y = x := by rw [hy, hki]; exact HP2.out
            have t0 : ((y : Int) != (x : Int)) = false := by rw [hyx]; simp
            have HKI := Lib.hid hki
            clear O hb hy hki hyx
            go_wp2
            go_quiet (fail)
            by_cases hn0 : 0 < n1
            · obtain ⟨m, hm⟩ : ∃ m, m = i % n1 := ⟨_, rfl⟩
              have hmn : m < n1 := by rw [hm]; exact Nat.mod_lt _ hn0
              obtain ⟨b, o, hAe, hbl, hbs⟩ := HC.out.at_ (by have := HN.out; omega)
              obtain ⟨q, hq⟩ : ∃ q, q = how.getD m 0 := ⟨_, rfl⟩
              have hq256 : q < 256 := by rw [hq]; exact HH.out.getD (by decide) _
              have gq : wr.cell? ⟨b, o + m, none⟩ = some (.int .u8 (q : Int)) := by
                rw [HB.out.cell (p := ⟨b, o + m, none⟩) hbl, hbs m (by have := HN.out; omega), hq]
                rfl
              have hmi : (i : Int) % (n1 : Int) = (m : Int) := by rw [hm]; omega
              have k0 : (0 : Int) < (n1 : Int) := by omega
              have k1 : (m : Int) < (n1 : Int) := by omega
              have k2 : ((n1 : Int) == 0) = false := by rw [Bool.eq_false_iff]; intro h; have := eq_of_beq h; omega
              have k3 : (0 : Int) ≤ (q : Int) := by omega
              have k4 : (q : Int) < 256 := by omega
              have k5 : (0 : Int) ≤ (i : Int) := by omega
              obtain ⟨y, hy⟩ : ∃ y, y = k + 20 * (q % 12) := ⟨_, rfl⟩
              have hv : (k : Int) + 20 * ((q : Int) % 12) = ((y : Nat) : Int) := by rw [hy]; omega
              have hy240 : y < 240 := by omega
              have hyk : y % 20 = k := by omega
              subst hAe
              have HV := Lib.hid hv; have HYK := Lib.hid hyk; have HY := Lib.hid hy240
              have i5 : (k : Int) < 20 := by omega
              have hpl8 : ps.length ≤ 8 := by have := HPL.out; omega
              clear hm hbs hq hy hyk hv hy240
              go_wp2_with (at_builtin; go_loud (refine wpl_append rfl _ _ _ rfl info_byte Try.underlying31 W.heap.size _ ps rfl (own_move HO.out (fun q hq => Below.heap_alloc _ _ q (own_lt HO.out q hq))) _ _ _ [y] rfl rfl (C8.one_ _ _ _ HV.out _ rfl) (by rw [List.length_singleton]; omega) (by have := HB.out.size; simp; omega) ?_); intro v' w2 O2 G2 _)
              go_roundw
              case rel =>
                refine ⟨i + 1, ps ++ [y], by omega, by go_num, by rw [List.length_append, HPL.out]; rfl, fun z hz => ?_, ?_, O2, ?_⟩
                · rcases List.mem_append.1 hz with hz | hz
                  · exact HP240.out z hz
                  · rw [List.mem_singleton.1 hz]; exact HY.out
                · rw [List.map_append, HMAP.out, HNX.out, List.map_cons, List.map_nil, HYK.out, HKI.out, HP2.out]
                · exact Below.grown ((below_drewN HB.out _).alloc (by exact HB.out.size) _) G2 (by have := HB.out.size; simp; omega) (fun r hr => (HO.out.lt r hr).1)
              case measure => simp [intOf]; omega
            · have k0 : ¬ (0 : Int) < (n1 : Int) := by omega
              obtain ⟨y, hy⟩ : ∃ y, y = k := ⟨_, rfl⟩
              have hv : (k : Int) = ((y : Nat) : Int) := by rw [hy]
              have hy240 : y < 240 := by omega
              have hyk : y % 20 = k := by omega
              have HV := Lib.hid hv; have HYK := Lib.hid hyk; have HY := Lib.hid hy240
              have i5 : (k : Int) < 20 := by omega
              have hpl8 : ps.length ≤ 8 := by have := HPL.out; omega
              clear hy hyk hv hy240
              go_wp2_with (at_builtin; go_loud (refine wpl_append rfl _ _ _ rfl info_byte Try.underlying31 W.heap.size _ ps rfl (own_move HO.out (fun q hq => Below.heap_alloc _ _ q (own_lt HO.out q hq))) _ _ _ [y] rfl rfl (C8.one_ _ _ _ HV.out _ rfl) (by rw [List.length_singleton]; omega) (by have := HB.out.size; simp; omega) ?_); intro v' w2 O2 G2 _)
              go_roundw
              case rel =>
                refine ⟨i + 1, ps ++ [y], by omega, by go_num, by rw [List.length_append, HPL.out]; rfl, fun z hz => ?_, ?_, O2, ?_⟩
                · rcases List.mem_append.1 hz with hz | hz
                  · exact HP240.out z hz
                  · rw [List.mem_singleton.1 hz]; exact HY.out
                · rw [List.map_append, HMAP.out, HNX.out, List.map_cons, List.map_nil, HYK.out, HKI.out, HP2.out]
                · exact Below.grown ((below_drewN HB.out _).alloc (by exact HB.out.size) _) G2 (by have := HB.out.size; simp; omega) (fun r hr => (HO.out.lt r hr).1)
              case measure => simp [intOf]; omega
          · have hyx : y ≠ x := by rw [hy]; exact HP3.out k (by omega)
            have t0 : ((y : Int) != (x : Int)) = true := by rw [bne_iff_ne]; omega
            clear O hb hy hyx
            go_wp2
            go_quiet (fail)
            go_wp2
            go_roundw
            case rel => exact ⟨k + 1, by omega, by go_num, HO.out, below_drewN HB.out _⟩
            case measure => simp [intOf]; omega
      · have ei : i = s.size := by omega
        have hpl8 : ps.length = 8 := by rw [hpl, ei, HSZ.out]
        have hu : user [] (fed [] ps) = (sN s, 0, []) := by
          have h := user_all [] ps [] hp240 (by simpa using hpl8) (by omega)
          rw [List.append_nil] at h
          rw [fed_one ps (by omega), h, List.nil_append, hmap, List.take_of_length_le (by rw [sN_len]; omega)]
        obtain ⟨A, c, hve, hcl, hCp⟩ := O.arg
        have h2 := newSource_any (fun _ => 0) 1 ps A ps.length c wr rfl hcl (fun y hy => by have := hp240 y hy; omega) hCp
        have h3 : ∀ (V : World) (f : Nat → Nat) (g : Nat), Src V f 1 g (fed [] ps) → Calls Try.prog 17 #[.pointer (some ⟨g, 0, none⟩)] V fun e w' => e = .returned (.tuple #[.string s, .int .i64 0]) ∧ Src w' (col f V.heap.size (1 + 1)) 1 g [] ∧ Far (fun k => k = g) V w' := fun V f g h => by
          have h9 := user_any f 1 g _ V h
          rw [hu, txt_sN] at h9
          exact h9
        rw [hpl8] at hve h2
        have H2 := Lib.hid h2; have H3 := Lib.hid h3
        have H6 : Hid (∀ (V : World) (f : Nat → Nat) (g : Nat), Src V f 1 g [] → Calls Try.prog 22 #[.pointer (some ⟨g, 0, none⟩)] V fun e w' => e = .returned (.int .i64 0) ∧ V = w') := fun V f g h => left_any f 1 g [] V h
        have j0 : ¬ (i : Int) < (s.size : Int) := by omega
        clear ei hpl hpl8 hu hp240 hmap O h2 h3 hCp hcl
        subst hve
        go_wp2_with (first
          | (go_at_call 18; (refine H2.out.mono ?_); rintro e w1 ⟨g, rfl, hg, S1, hb1⟩
             have hb1' := hb.trans (hb1.mono hb.size))
          | (go_at_call 17; (with_reducible refine (H3.out _ _ g S1).mono ?_); rintro e w2 ⟨rfl, S2, F2⟩
             have hb2 : Below W.heap.size W w2 := hb1'.trans (F2.below (fun n hn e => by have := hb.size; omega) hb1'.size)
             clear S1)
          | (go_at_call 11; (with_reducible refine (num_q _ _).mono ?_); rintro e w5 ⟨rfl, rfl⟩)
          | (go_at_call 22; (with_reducible refine (H6.out _ _ g S2).mono ?_); rintro e w6 ⟨rfl, rfl⟩)
          | (go_at_call 12; (with_reducible refine (live_any _).mono ?_); rintro e w7 ⟨rfl, hb7⟩
             have hb7' := hb2.trans (hb7.mono hb2.size)))
        go_ret
        exact ⟨rfl, hb7'⟩
theorem row_all (a0 : ByteArray) (a1 : List Int) (o0 : a0.size ≤ 140737488351232) (o1 : a1.length * 1 ≤ 140737488351232 ∧ ∀ y, y ∈ a1 → (Lit.int .u8 y).wf = true) (W : World) (A1 : Option Addr) (c1 : Nat)
    (hr1 : Kd.C (Kd.int .u8) W A1 a1.length a1) (hc1 : a1.length ≤ c1) :
    Calls Try.prog 6 #[.string a0, .slice A1 a1.length c1] W fun e w' => e = .returned (.bool true) ∧ Below W.heap.size W w' := by
  obtain ⟨k1, k2⟩ := bytes_of_ok o1.2
  exact all_law a0 (toN a1) A1 _ c1 W (by omega) (toN_len a1).symm (by omega) k2 hc1 (by show Kd.C _ _ _ _ _; rw [k1, toN_len]; exact hr1)
end Go.Proofs.Ytaeipffenlkjpaa.Sha
