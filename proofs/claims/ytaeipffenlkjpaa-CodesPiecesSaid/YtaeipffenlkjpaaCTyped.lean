/-
  wicketlaw09.typed: what the call does, walked. Normal, Show, Code, num, one as contracts.
-/
import Derived.Test.YtaeipffenlkjpaaCText
import Derived.Test.YtaeipffenlkjpaaCRef2
namespace Go.Proofs.Ytaeipffenlkjpaa.Sha
open Go.RowKit Go.Proofs.YtaeipffenlkjpaaW.PrintWords Go.Proofs.Ytaeipffenlkjpaa.PAll Go.Proofs.Ytaeipffenlkjpaa.Plain Go.Proofs.Ytaeipffenlkjpaa.Cod
set_option linter.unusedVariables false
set_option linter.unusedSimpArgs false
theorem normal_any (s : ByteArray) (w : World) : Calls Try.prog 13 #[.string s] w fun e w' => e = .returned (.tuple #[.string (txt (normal (sN s)).1), .int .i64 ((normal (sN s)).2 : Nat)]) ∧ Below w.heap.size w w' := by
  obtain ⟨k, hk⟩ := Ev.rounds (normal_ev s)
  exact codes_Normal.calls k s _ _ w hk
theorem rnormal_any (s : ByteArray) (w : World) : Calls Try.prog 14 #[.string s] w fun e w' => e = .returned (.tuple #[.string (txt (normal (sN s)).1), .int .i64 ((normal (sN s)).2 : Nat)]) ∧ Below w.heap.size w w' := by
  obtain ⟨k, hk⟩ := Ev.rounds (rnormal_ev s)
  exact wicketref09_Normal.calls k s _ _ w hk
theorem show_any (s : ByteArray) (w : World) : Calls Try.prog 15 #[.string s] w fun e w' => e = .returned (.string (txt (shown (sN s)))) ∧ Below w.heap.size w w' :=
  codes_Show.calls s _ w (show_f s)
theorem rshow_any (s : ByteArray) (w : World) (hs : s.size ≤ 140737488355328) : Calls Try.prog 16 #[.string s] w fun e w' => e = .returned (.string (txt (shown (sN s)))) ∧ Below w.heap.size w w' := by
  obtain ⟨k, hk⟩ := Ev.rounds (rshow_ev s hs)
  exact (wicketref09_Show.calls k s _ w hk).mono fun e w' ⟨h, hd⟩ => ⟨h, hd.below⟩
theorem rcode_any (s : ByteArray) (w : World) (hs : s.size ≤ 140737488355328) : Calls Try.prog 20 #[.string s] w fun e w' => e = .returned (.bool (isCode (sN s))) ∧ Below w.heap.size w w' := by
  obtain ⟨k, hk⟩ := Ev.rounds (code_ev s hs)
  exact (wicketref09_Code.calls k s _ w hk).mono fun e w' ⟨h, hd⟩ => ⟨h, hd.below⟩
theorem num_q (a : Int) (w : World) : Calls Try.prog 11 #[.int .i64 a] w fun e w' => e = .returned (.int .i64 a) ∧ w = w' := by
  go_enter Try.func11, Try.ntmps11
  go_wp2
  go_ret
  exact ⟨rfl, rfl⟩
theorem one_q (b : Bool) (w : World) : Calls Try.prog 25 #[.bool b] w fun e w' => e = .returned (.int .i64 (if b = true then 1 else 0)) ∧ w = w' := by
  cases b
  · go_enter Try.func25, Try.ntmps25
    go_wp2
    go_ret
    exact ⟨rfl, rfl⟩
  · go_enter Try.func25, Try.ntmps25
    go_wp2
    go_ret
    exact ⟨rfl, rfl⟩
theorem conv_one (w : World) (y : Nat) (yi : Int) (hy : yi = (y : Int)) : (convert 31 9 (.slice (some ⟨w.heap.size, 0, none⟩) 1 1)).run Try.prog (w.alloc (.cells #[.int .u8 yi] 5)) = .ok (.string (txt [y])) (w.alloc (.cells #[.int .u8 yi] 5)) := by
  subst hy
  have h := C8.one w y w.heap.size rfl
  exact Kd.C_string (P := Try.prog) (w := w.alloc (.cells #[.int .u8 (y : Int)] 5)) (A := some ⟨w.heap.size, 0, none⟩) (c := 1) Try.underlying31 Try.underlying5 Try.underlying9 (show Kd.C (Kd.int .u8) _ _ 1 (toI [y]) from h)
def M5 : ByteArray := ⟨#[32, 45, 95, 46, 47]⟩
theorem M5_cut : ∀ k, k < 5 → M5.extract k (k + 1) = txt [marks.getD k 0] := fun k hk => by
  apply txt_inj
  revert k
  decide +kernel
theorem marks_256 : ∀ x ∈ marks, x < 256 := by decide
theorem lets_range : ∀ x ∈ lets, 65 ≤ x ∧ x ≤ 90 := by decide
theorem one_all (c q : Nat) (hc : c ∈ lets) : All 256 (Cod.one c q) := by
  have h := lets_range c hc
  unfold Cod.one
  refine All.app (All.app ?_ ?_) ?_
  · split
    · exact All.one (marks_256 _ (marks_at _ (Nat.mod_lt _ (by decide))))
    · exact All.nil
  · refine All.one ?_
    split <;> omega
  · split
    · exact all_dec (by decide)
    · exact All.nil
set_option maxRecDepth 100000 in
set_option maxHeartbeats 4000000 in
theorem typed_any (s : ByteArray) (how : List Nat) (A : Option Addr) (n c : Nat) (w : World) (hs : isCode (sN s) = true) (hn : n = how.length) (hc : n ≤ c) (hn2 : n ≤ 140737488355328) (hh : All 256 how) (hC : C8 w A how.length how) :
    Calls Try.prog 19 #[.string s, .slice A n c] w fun e w' => e = .returned (.string (txt (typedL how (sN s) 0))) ∧ Below w.heap.size w w' := by
  have h8 := isCode_spec.1 hs
  obtain ⟨T, hT⟩ : ∃ T, T = typedL how (sN s) 0 := ⟨_, rfl⟩
  have hsz : s.size = 8 := by rw [← sN_len]; exact h8.1
  have HZ := Lib.hid hsz; have H8 := Lib.hid h8; have HT := Lib.hid hT; have HN := Lib.hid hn; have HH := Lib.hid hh; have HC := Lib.hid hC; have HM := Lib.hid M5_cut
  have i0 : s.size ≤ 8 := by omega
  rw [← hT]
  clear hs h8 hT hsz hn hh hC
  go_enter Try.func19, Try.ntmps19
  go_wp2
  go_loopw [6, 7, 8, 9, 10] (fun v6 v7 v8 v9 v10 wr => ∃ (i : Nat) (acc : List Nat), i ≤ s.size ∧ v7 = .int .i64 (i : Int) ∧ v6 = .string (txt acc) ∧ All 256 acc ∧ acc.length ≤ 3 * i ∧ acc ++ typedL how ((sN s).drop i) i = T ∧ Below w.heap.size w wr) (fun _ v7 _ _ _ _ => s.size - (intOf v7).toNat)
  case atStart => exact ⟨0, [], by omega, rfl, rfl, All.nil, by simp, by rw [HT.out]; rfl, Below.refl _ _⟩
  case round =>
    obtain ⟨i, acc, hi, rfl, rfl, hacc, hal, hT, hb⟩ := hrel
    by_cases hlt : i < s.size
    · have hdr : (sN s).drop i = (sN s).getD i 0 :: (sN s).drop (i + 1) := by
        rw [List.drop_eq_getElem_cons (by rw [sN_len]; exact hlt), List.getD_eq_getElem?_getD, List.getElem?_eq_getElem (by rw [sN_len]; exact hlt)]
        rfl
      obtain ⟨x, hx⟩ : ∃ x, x = (sN s).getD i 0 := ⟨_, rfl⟩
      have hxl : x ∈ lets := H8.out.2 x (by rw [hx, List.getD_eq_getElem?_getD, List.getElem?_eq_getElem (by rw [sN_len]; exact hlt)]; simp)
      have hxr := lets_range x hxl
      obtain ⟨q, hq⟩ : ∃ q, q = (if how.length = 0 then 0 else how.getD (i % how.length) 0) := ⟨_, rfl⟩
      have hq256 : q < 256 := by
        rw [hq]; split
        · decide
        · exact HH.out.getD (by decide) _
      rw [hdr, ← hx] at hT
      unfold typedL at hT
      rw [← hq, ← List.append_assoc] at hT
      have hix : ∀ W : World, (Instr.index 9 (.string s) (.int .i64 (i : Int))).run Try.prog W = .ok (.int .u8 (x : Int)) W := fun W => by
        have e : (s[i]'hlt).toNat = x := by
          rw [hx]
          unfold sN
          rw [List.getD_eq_getElem?_getD, List.getElem?_map, List.getElem?_eq_getElem (by simpa using hlt)]
          rfl
        rw [← e]
        go_simp
      have HTT := Lib.hid hT; have HX := Lib.hid hx; have HQ := Lib.hid hq; have HAC := Lib.hid hacc; have HXL := Lib.hid hxl
      obtain ⟨a, ha⟩ : ∃ a, a = txt acc := ⟨_, rfl⟩
      have has : a.size ≤ 24 := by rw [ha, txt_size]; omega
      rw [← ha]
      have HA := Lib.hid ha
      have j1 : (65 : Int) ≤ (x : Int) := by omega
      have j2 : (x : Int) ≤ 90 := by omega
      have j3 : (0 : Int) ≤ (i : Int) := by omega
      have j4 : (0 : Int) ≤ (q : Int) := by omega
      have j5 : (q : Int) < 256 := by omega
      clear hT hx hq hacc hxl hdr ha hxr
      by_cases hn0 : 0 < n
      · obtain ⟨m, hm⟩ : ∃ m, m = i % n := ⟨_, rfl⟩
        have hmn : m < n := by rw [hm]; exact Nat.mod_lt _ hn0
        obtain ⟨b, o, hAe, hbl, hbs⟩ := HC.out.at_ (by have := HN.out; omega)
        have gq : wr.cell? ⟨b, o + m, none⟩ = some (.int .u8 (q : Int)) := by
          rw [hb.cell (p := ⟨b, o + m, none⟩) hbl, hbs m (by have := HN.out; omega), HQ.out, if_neg (by have := HN.out; omega), ← HN.out, hm]
          rfl
        have hmi : (i : Int) % (n : Int) = (m : Int) := by rw [hm]; omega
        have k0 : (0 : Int) < (n : Int) := by omega
        have k1 : (m : Int) < (n : Int) := by omega
        have k2 : ((n : Int) == 0) = false := by
          rw [Bool.eq_false_iff]
          intro h
          have := eq_of_beq h
          omega
        subst hAe
        clear hm hbs
        have hy1 : ∀ y : Nat, y < 256 → All 256 [y] := fun y hy => All.one hy
        have HY := Lib.hid hy1
        clear hy1
        have hmk : marks.getD (q / 8 % 5) 0 < 256 := marks_256 _ (marks_at _ (Nat.mod_lt _ (by decide)))
        obtain ⟨mk, hmk1⟩ : ∃ mk, mk = marks.getD (q / 8 % 5) 0 := ⟨_, rfl⟩
        rw [← hmk1] at hmk
        obtain ⟨um, hum⟩ : ∃ um, um = txt [mk] := ⟨_, rfl⟩
        have hums : um.size ≤ 1 := by rw [hum, txt_size]; simp
        have hcut : ∀ W : World, (Instr.slice 9 (.string ⟨#[32, 45, 95, 46, 47]⟩) (some (.int .i64 ((q : Int) / 8 % 5))) (some (.int .i64 ((q : Int) / 8 % 5 + 1))) none).run Try.prog W = .ok (.string um) W := fun W => by
          have hk : q / 8 % 5 < 5 := Nat.mod_lt _ (by decide)
          have h5 : M5.size = 5 := rfl
          show (Instr.slice 9 (.string M5) _ _ none).run Try.prog W = _
          rw [run_slice_string W 9 M5 .i64 .i64 ((q : Int) / 8 % 5) ((q : Int) / 8 % 5 + 1) Try.underlying9 (by omega) (by omega) (by omega), hum, hmk1, ← HM.out (q / 8 % 5) hk]
          rw [show ((q : Int) / 8 % 5).toNat = q / 8 % 5 by omega, show ((q : Int) / 8 % 5 + 1).toNat = q / 8 % 5 + 1 by omega]
        have HMK := Lib.hid hmk1; have HUM := Lib.hid hum; have HMK2 := Lib.hid hmk
        clear hmk1 hum hmk
        by_cases h2 : q % 2 = 1
        · by_cases h3 : q / 2 % 3 = 1
          · have d1 : ((q : Int) % 2 == 1) = true := by rw [beq_iff_eq]; omega
            have d2 : ((q : Int) / 2 % 3 == 1) = true := by rw [beq_iff_eq]; omega
            have d3 : ((q : Int) / 2 % 3 == 2) = false := by rw [Bool.eq_false_iff]; intro h; have := eq_of_beq h; omega
            obtain ⟨y, hy⟩ : ∃ y, y = x + 32 := ⟨_, rfl⟩
            have hcv := conv_one wr y ((x : Int) - 65 + 97) (by omega)
            obtain ⟨u, hu⟩ : ∃ u, u = txt [y] := ⟨_, rfl⟩
            rw [← hu] at hcv
            have hus : u.size ≤ 1 := by rw [hu, txt_size]; simp
            have hy2 : y < 256 := by omega
            have ho : Cod.one x q = [mk] ++ [y] := by unfold Cod.one; rw [if_pos (show q / 2 % 3 = 1 by omega), if_pos h2, if_neg (show ¬ q / 2 % 3 = 2 by omega), ← HMK.out, hy]; rfl
            have HU := Lib.hid hu; have HO := Lib.hid ho; have HY2 := Lib.hid hy2
            clear hu ho hy h2 h3 hy2
            go_wp2
            go_roundw
            case rel =>
              refine ⟨i + 1, acc ++ ([mk] ++ [y]), by omega, by go_num, ?_, HAC.out.app ((HY.out mk HMK2.out).app (HY.out y HY2.out)), by simp; omega, ?_, hb.alloc hb.size _⟩
              · rw [HA.out, HU.out, HUM.out, ← List.append_assoc, txt_app _ _ (HAC.out.app (HY.out mk HMK2.out)) (HY.out y HY2.out), txt_app _ _ HAC.out (HY.out mk HMK2.out)]
              · have h := HTT.out
                rw [HO.out] at h
                exact h
            case measure => simp [intOf]; omega
          · by_cases h4 : q / 2 % 3 = 2
            · have d1 : ((q : Int) % 2 == 1) = true := by rw [beq_iff_eq]; omega
              have d2 : ((q : Int) / 2 % 3 == 1) = false := by rw [Bool.eq_false_iff]; intro h; have := eq_of_beq h; omega
              have d3 : ((q : Int) / 2 % 3 == 2) = true := by rw [beq_iff_eq]; omega
              obtain ⟨y, hy⟩ : ∃ y, y = x + 32 := ⟨_, rfl⟩
              have hcv := conv_one wr y ((x : Int) - 65 + 97) (by omega)
              obtain ⟨u, hu⟩ : ∃ u, u = txt [y] := ⟨_, rfl⟩
              rw [← hu] at hcv
              have hus : u.size ≤ 1 := by rw [hu, txt_size]; simp
              have hy2 : y < 256 := by omega
              have ho : Cod.one x q = [y] ++ [32, 45] := by unfold Cod.one; rw [if_neg (show ¬ q / 2 % 3 = 1 by omega), if_pos h2, if_pos (show q / 2 % 3 = 2 by omega), hy]; rfl
              have HU := Lib.hid hu; have HO := Lib.hid ho; have HY2 := Lib.hid hy2
              clear hu ho hy h2 h3 hy2 h4
              go_wp2
              go_roundw
              case rel =>
                refine ⟨i + 1, acc ++ ([y] ++ [32, 45]), by omega, by go_num, ?_, HAC.out.app ((HY.out y HY2.out).app (all_dec (by decide))), by simp; omega, ?_, hb.alloc hb.size _⟩
                · rw [HA.out, HU.out, ← List.append_assoc, txt_app _ _ (HAC.out.app (HY.out y HY2.out)) (all_dec (by decide)), txt_app _ _ HAC.out (HY.out y HY2.out)]; rfl
                · have h := HTT.out
                  rw [HO.out] at h
                  exact h
              case measure => simp [intOf]; omega
            · have d1 : ((q : Int) % 2 == 1) = true := by rw [beq_iff_eq]; omega
              have d2 : ((q : Int) / 2 % 3 == 1) = false := by rw [Bool.eq_false_iff]; intro h; have := eq_of_beq h; omega
              have d3 : ((q : Int) / 2 % 3 == 2) = false := by rw [Bool.eq_false_iff]; intro h; have := eq_of_beq h; omega
              obtain ⟨y, hy⟩ : ∃ y, y = x + 32 := ⟨_, rfl⟩
              have hcv := conv_one wr y ((x : Int) - 65 + 97) (by omega)
              obtain ⟨u, hu⟩ : ∃ u, u = txt [y] := ⟨_, rfl⟩
              rw [← hu] at hcv
              have hus : u.size ≤ 1 := by rw [hu, txt_size]; simp
              have hy2 : y < 256 := by omega
              have ho : Cod.one x q = [y] := by unfold Cod.one; rw [if_neg (show ¬ q / 2 % 3 = 1 by omega), if_pos h2, if_neg (show ¬ q / 2 % 3 = 2 by omega), hy]; rfl
              have HU := Lib.hid hu; have HO := Lib.hid ho; have HY2 := Lib.hid hy2
              clear hu ho hy h2 h3 hy2 h4
              go_wp2
              go_roundw
              case rel =>
                refine ⟨i + 1, acc ++ ([y]), by omega, by go_num, ?_, HAC.out.app (HY.out y HY2.out), by simp; omega, ?_, hb.alloc hb.size _⟩
                · rw [HA.out, HU.out, txt_app _ _ HAC.out (HY.out y HY2.out)]
                · have h := HTT.out
                  rw [HO.out] at h
                  exact h
              case measure => simp [intOf]; omega
        · by_cases h3 : q / 2 % 3 = 1
          · have d1 : ((q : Int) % 2 == 1) = false := by rw [Bool.eq_false_iff]; intro h; have := eq_of_beq h; omega
            have d2 : ((q : Int) / 2 % 3 == 1) = true := by rw [beq_iff_eq]; omega
            have d3 : ((q : Int) / 2 % 3 == 2) = false := by rw [Bool.eq_false_iff]; intro h; have := eq_of_beq h; omega
            obtain ⟨y, hy⟩ : ∃ y, y = x := ⟨_, rfl⟩
            have hcv := conv_one wr y ((x : Int)) (by omega)
            obtain ⟨u, hu⟩ : ∃ u, u = txt [y] := ⟨_, rfl⟩
            rw [← hu] at hcv
            have hus : u.size ≤ 1 := by rw [hu, txt_size]; simp
            have hy2 : y < 256 := by omega
            have ho : Cod.one x q = [mk] ++ [y] := by unfold Cod.one; rw [if_pos (show q / 2 % 3 = 1 by omega), if_neg h2, if_neg (show ¬ q / 2 % 3 = 2 by omega), ← HMK.out, hy]; rfl
            have HU := Lib.hid hu; have HO := Lib.hid ho; have HY2 := Lib.hid hy2
            clear hu ho hy h2 h3 hy2
            go_wp2
            go_roundw
            case rel =>
              refine ⟨i + 1, acc ++ ([mk] ++ [y]), by omega, by go_num, ?_, HAC.out.app ((HY.out mk HMK2.out).app (HY.out y HY2.out)), by simp; omega, ?_, hb.alloc hb.size _⟩
              · rw [HA.out, HU.out, HUM.out, ← List.append_assoc, txt_app _ _ (HAC.out.app (HY.out mk HMK2.out)) (HY.out y HY2.out), txt_app _ _ HAC.out (HY.out mk HMK2.out)]
              · have h := HTT.out
                rw [HO.out] at h
                exact h
            case measure => simp [intOf]; omega
          · by_cases h4 : q / 2 % 3 = 2
            · have d1 : ((q : Int) % 2 == 1) = false := by rw [Bool.eq_false_iff]; intro h; have := eq_of_beq h; omega
              have d2 : ((q : Int) / 2 % 3 == 1) = false := by rw [Bool.eq_false_iff]; intro h; have := eq_of_beq h; omega
              have d3 : ((q : Int) / 2 % 3 == 2) = true := by rw [beq_iff_eq]; omega
              obtain ⟨y, hy⟩ : ∃ y, y = x := ⟨_, rfl⟩
              have hcv := conv_one wr y ((x : Int)) (by omega)
              obtain ⟨u, hu⟩ : ∃ u, u = txt [y] := ⟨_, rfl⟩
              rw [← hu] at hcv
              have hus : u.size ≤ 1 := by rw [hu, txt_size]; simp
              have hy2 : y < 256 := by omega
              have ho : Cod.one x q = [y] ++ [32, 45] := by unfold Cod.one; rw [if_neg (show ¬ q / 2 % 3 = 1 by omega), if_neg h2, if_pos (show q / 2 % 3 = 2 by omega), hy]; rfl
              have HU := Lib.hid hu; have HO := Lib.hid ho; have HY2 := Lib.hid hy2
              clear hu ho hy h2 h3 hy2 h4
              go_wp2
              go_roundw
              case rel =>
                refine ⟨i + 1, acc ++ ([y] ++ [32, 45]), by omega, by go_num, ?_, HAC.out.app ((HY.out y HY2.out).app (all_dec (by decide))), by simp; omega, ?_, hb.alloc hb.size _⟩
                · rw [HA.out, HU.out, ← List.append_assoc, txt_app _ _ (HAC.out.app (HY.out y HY2.out)) (all_dec (by decide)), txt_app _ _ HAC.out (HY.out y HY2.out)]; rfl
                · have h := HTT.out
                  rw [HO.out] at h
                  exact h
              case measure => simp [intOf]; omega
            · have d1 : ((q : Int) % 2 == 1) = false := by rw [Bool.eq_false_iff]; intro h; have := eq_of_beq h; omega
              have d2 : ((q : Int) / 2 % 3 == 1) = false := by rw [Bool.eq_false_iff]; intro h; have := eq_of_beq h; omega
              have d3 : ((q : Int) / 2 % 3 == 2) = false := by rw [Bool.eq_false_iff]; intro h; have := eq_of_beq h; omega
              obtain ⟨y, hy⟩ : ∃ y, y = x := ⟨_, rfl⟩
              have hcv := conv_one wr y ((x : Int)) (by omega)
              obtain ⟨u, hu⟩ : ∃ u, u = txt [y] := ⟨_, rfl⟩
              rw [← hu] at hcv
              have hus : u.size ≤ 1 := by rw [hu, txt_size]; simp
              have hy2 : y < 256 := by omega
              have ho : Cod.one x q = [y] := by unfold Cod.one; rw [if_neg (show ¬ q / 2 % 3 = 1 by omega), if_neg h2, if_neg (show ¬ q / 2 % 3 = 2 by omega), hy]; rfl
              have HU := Lib.hid hu; have HO := Lib.hid ho; have HY2 := Lib.hid hy2
              clear hu ho hy h2 h3 hy2 h4
              go_wp2
              go_roundw
              case rel =>
                refine ⟨i + 1, acc ++ ([y]), by omega, by go_num, ?_, HAC.out.app (HY.out y HY2.out), by simp; omega, ?_, hb.alloc hb.size _⟩
                · rw [HA.out, HU.out, txt_app _ _ HAC.out (HY.out y HY2.out)]
                · have h := HTT.out
                  rw [HO.out] at h
                  exact h
              case measure => simp [intOf]; omega
      · have hq0 : q = 0 := by rw [HQ.out, if_pos (by have := HN.out; omega)]
        have hcv := conv_one wr x (x : Int) rfl
        obtain ⟨u, hu⟩ : ∃ u, u = txt [x] := ⟨_, rfl⟩
        rw [← hu] at hcv
        have hus : u.size ≤ 1 := by rw [hu, txt_size]; simp
        have HU := Lib.hid hu; have HQ0 := Lib.hid hq0
        clear hu hq0
        go_wp2
        go_roundw
        case rel =>
          refine ⟨i + 1, acc ++ [x], by omega, by go_num, ?_, HAC.out.app (All.one (by omega)), by simp; omega, ?_, hb.alloc hb.size _⟩
          · rw [HA.out, HU.out, txt_app _ _ HAC.out (All.one (by omega))]
          · have h := HTT.out
            rw [HQ0.out] at h
            exact h
        case measure => simp [intOf]; omega
    · have e : acc = T := by
        rw [List.drop_eq_nil_of_le (by rw [sN_len]; omega)] at hT
        unfold typedL at hT
        rw [List.append_nil] at hT
        exact hT
      have HE := Lib.hid e
      obtain ⟨a, ha⟩ : ∃ a, a = txt acc := ⟨_, rfl⟩
      rw [← ha]
      have HA := Lib.hid ha
      clear e hT ha
      go_wp2
      go_ret
      exact ⟨by rw [HA.out, HE.out]; rfl, hb⟩
end Go.Proofs.Ytaeipffenlkjpaa.Sha
