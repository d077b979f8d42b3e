/-
  The reference's Load: what the call does, walked.
-/
import Derived.Test.YtfedlgcpgfofjaaDoorDRef2
import Derived.Test.YtfedlgcpgfofjaaDoorDLoad
namespace Go.Proofs.YtfedlgcpgfofjaaDoor.Sha
open Go.RowKit Go.Proofs.YtfedlgcpgfofjaaDoorW.PrintWords Go.Proofs.YtfedlgcpgfofjaaDoor.PAll Go.Proofs.YtfedlgcpgfofjaaDoor.Plain
set_option linter.unusedVariables false
/-- The register's words, when k bytes of a Save are read. -/
def rg (b : List Nat) (k : Nat) : List Nat := (List.range 8).map fun l => num8 (((b.drop (4 * l)).take 4).take (k - 4 * l))
theorem rg_len (b : List Nat) (k : Nat) : (rg b k).length = 8 := by simp [rg]
theorem rg_at (b : List Nat) (k l : Nat) (h : l < 8) : (rg b k)[l]? = some (num8 (((b.drop (4 * l)).take 4).take (k - 4 * l))) := by simp [rg, h]
theorem rg_getD (b : List Nat) (k l : Nat) (h : l < 8) : (rg b k).getD l 0 = num8 (((b.drop (4 * l)).take 4).take (k - 4 * l)) := by
  rw [List.getD_eq_getElem?_getD, rg_at b k l h]
  rfl
theorem rg_zero (b : List Nat) : rg b 0 = List.replicate 8 0 := by
  refine List.ext_getElem? fun l => ?_
  by_cases h : l < 8
  · rw [rg_at b 0 l h, List.getElem?_replicate, if_pos h, Nat.zero_sub, List.take_zero]
    rfl
  · rw [List.getElem?_eq_none (by rw [rg_len]; omega), List.getElem?_eq_none (by rw [List.length_replicate]; omega)]
theorem four_of (l : List Nat) (h : l.length = 4) : l = [l.getD 0 0, l.getD 1 0, l.getD 2 0, l.getD 3 0] := by
  match l, h with
  | [a, b, c, d], _ => rfl
theorem rg_full (b : List Nat) (h : b.length = 104) : rg b 32 = wordsOf b := by
  refine List.ext_getElem? fun l => ?_
  by_cases hl : l < 8
  · rw [rg_at b 32 l hl, wordsOf_at b l hl, List.take_take, Nat.min_eq_right (by omega)]
    have h4 : ((b.drop (4 * l)).take 4).length = 4 := by rw [List.length_take, List.length_drop]; omega
    have hg : ∀ j, j < 4 → ((b.drop (4 * l)).take 4).getD j 0 = b.getD (4 * l + j) 0 := fun j hj => by
      rw [List.getD_eq_getElem?_getD, List.getElem?_take_of_lt hj, List.getElem?_drop, List.getD_eq_getElem?_getD]
    rw [four_of _ h4, hg 0 (by omega), hg 1 (by omega), hg 2 (by omega), hg 3 (by omega)]
    unfold word4 num8
    simp
  · rw [List.getElem?_eq_none (by rw [rg_len]; omega), List.getElem?_eq_none (by rw [wordsOf_len]; omega)]
theorem rg_lt (b : List Nat) (hb : All 256 b) (k : Nat) (h : k < 32) : (rg b k).getD (k / 4) 0 < 16777216 := by
  rw [rg_getD b k (k / 4) (by omega)]
  have h1 := num8_lt (((b.drop (4 * (k / 4))).take 4).take (k - 4 * (k / 4))) (fun y hy => hb y (List.mem_of_mem_drop (List.mem_of_mem_take (List.mem_of_mem_take hy))))
  refine Nat.lt_of_lt_of_le h1 (Nat.le_trans (Nat.pow_le_pow_right (by decide) (show _ ≤ 3 from ?_)) (by decide))
  rw [List.length_take]
  omega
theorem rg_step (b : List Nat) (hl : b.length = 104) (k x : Nat) (h : k < 32) (hx : x = b.getD k 0) : (rg b k).set (k / 4) ((rg b k).getD (k / 4) 0 * 256 + x) = rg b (k + 1) := by
  refine List.ext_getElem? fun l => ?_
  by_cases h8 : l < 8
  · by_cases e : l = k / 4
    · subst e
      rw [List.getElem?_set_self (by rw [rg_len]; omega), rg_at b (k + 1) _ h8, rg_getD b k _ h8]
      have hh : ((b.drop (4 * (k / 4))).take 4)[k - 4 * (k / 4)]? = some x := by
        rw [List.getElem?_take_of_lt (by omega), List.getElem?_drop, show 4 * (k / 4) + (k - 4 * (k / 4)) = k by omega, hx, List.getD_eq_getElem?_getD, List.getElem?_eq_getElem (by omega)]
        rfl
      obtain ⟨M, hM⟩ : ∃ M, M = (b.drop (4 * (k / 4))).take 4 := ⟨_, rfl⟩
      rw [← hM] at hh ⊢
      rw [show k + 1 - 4 * (k / 4) = (k - 4 * (k / 4)) + 1 by omega, List.take_add_one, hh]
      exact congrArg some (num8_push _ _).symm
    · rw [List.getElem?_set_ne (fun e' => e e'.symm), rg_at b k l h8, rg_at b (k + 1) l h8]
      rcases Nat.lt_or_ge l (k / 4) with h1 | h1
      · have hM : ((b.drop (4 * l)).take 4).length ≤ 4 := List.length_take_le _ _
        obtain ⟨M, hMe⟩ : ∃ M, M = (b.drop (4 * l)).take 4 := ⟨_, rfl⟩
        rw [← hMe] at hM ⊢
        rw [List.take_of_length_le (by omega), List.take_of_length_le (by omega)]
      · rw [show k - 4 * l = 0 by omega, show k + 1 - 4 * l = 0 by omega]
  · rw [List.getElem?_eq_none (by rw [List.length_set, rg_len]; omega), List.getElem?_eq_none (by rw [rg_len]; omega)]
theorem rh_set (R : List Nat) (past k x : Nat) (v : Value) (hk : k < R.length) : (rh R past v).toArray.setIfInBounds k (v32 x) = (rh (R.set k x) past v).toArray := by
  apply Array.ext'
  rw [Array.toList_setIfInBounds]
  unfold rh
  rw [List.set_append_left _ _ (by rw [List.length_map]; exact hk), List.map_set]
theorem rh_reg {w : World} {g : Nat} {R : List Nat} {past : Nat} {v : Value} (h : Blk w g 58 (rh R past v).toArray) (k : Nat) (hk : k < R.length) : w.cell? ⟨g, k, none⟩ = some (.int .u32 ((R.getD k 0 : Nat) : Int)) := by
  rw [h.cell]
  unfold rh
  rw [List.getElem?_toArray, List.getElem?_append_left (by rw [List.length_map]; exact hk), List.getElem?_map, List.getElem?_eq_getElem hk, List.getD_eq_getElem?_getD, List.getElem?_eq_getElem hk]
  rfl
theorem Own.farR {w : World} {base g : Nat} {v : Value} {p : List Nat} (h : Own w base v p) (j : Nat) (u : Value) (hne : v.ownBlock ≠ some g) : Own (w.setCell ⟨g, j, none⟩ u) base v p :=
  own_move h (fun k hk => Below.heap_setCell w ⟨g, j, none⟩ u k (fun e => hne (by rw [hk, e])))
/-- The answer of a Load that fails. -/
def rzero : List Value := rh (List.replicate 8 0) 0 (.slice none 0 0)
theorem rload_short (A : Option Addr) (n c : Nat) (w : World) (h : n < 104) :
    Calls Tryd.prog 59 #[.slice A n c] w fun e w' => e = .returned (.tuple #[.agg rzero.toArray, .int .i64 3]) ∧ Below w.heap.size w w' := by
  have i0 : (n : Int) < 104 := by omega
  go_enter Tryd.func59, Tryd.ntmps59
  go_wp2_with (refine wpl_store rfl 58 _ _ rfl w.heap.size 0 rfl 58 [] rzero [] rzero rfl (Blk.new w 58 rzero.toArray) rfl rfl (by kernel_rfl) (rh_one _ _ _ rfl) ?_; intro w3 B3 O3)
  exact bodyPost_ret (results_ct rfl _ _ w.heap.size 58 rzero.toArray (0, 0) _ rfl (by have h9 := B3; rw [List.nil_append, List.append_nil] at h9; exact h9) Tryd.underlying58 rfl (by kernel_rfl)) rfl ⟨rfl, O3.below ((Below.refl _ _).alloc (Nat.le_refl _) _) (Nat.le_refl _)⟩
theorem rload_long (A : Option Addr) (n c : Nat) (w : World) (h : 104 < n) :
    Calls Tryd.prog 59 #[.slice A n c] w fun e w' => e = .returned (.tuple #[.agg rzero.toArray, .int .i64 4]) ∧ Below w.heap.size w w' := by
  have i0 : ¬ (n : Int) < 104 := by omega
  have i1 : (n : Int) > 104 := by omega
  go_enter Tryd.func59, Tryd.ntmps59
  go_wp2_with (refine wpl_store rfl 58 _ _ rfl w.heap.size 0 rfl 58 [] rzero [] rzero rfl (Blk.new w 58 rzero.toArray) rfl rfl (by kernel_rfl) (rh_one _ _ _ rfl) ?_; intro w3 B3 O3)
  exact bodyPost_ret (results_ct rfl _ _ w.heap.size 58 rzero.toArray (0, 0) _ rfl (by have h9 := B3; rw [List.nil_append, List.append_nil] at h9; exact h9) Tryd.underlying58 rfl (by kernel_rfl)) rfl ⟨rfl, O3.below ((Below.refl _ _).alloc (Nat.le_refl _) _) (Nat.le_refl _)⟩
theorem run_neq56 (D E : List Nat) (hD : D.length = 8) (hE : E.length = 8) (W : World) :
    (binOp .neq 56 (.agg (D.map v32).toArray) (.agg (E.map v32).toArray)).run Tryd.prog W = .ok (.bool (!decide (D = E))) W := by
  obtain ⟨i, hi⟩ : ∃ i, Tryd.prog.info? 55 = some i := by
    have := info55_size
    cases h : Tryd.prog.info? 55 with
    | none => rw [h] at this; cases this
    | some i => exact ⟨i, rfl⟩
  have h := run_equalIn_array (P := Tryd.prog) W 9999 (D.map v32).toArray (E.map v32).toArray Tryd.underlying56 hi
  rw [cells55, run_eqItems_u32 9998 D E W _ (fun i hi => by have := List.mem_range.1 hi; omega)] at h
  have e : ((List.range 8).all fun i => decide (D.getD i 0 = E.getD i 0)) = decide (D = E) := by
    rw [Bool.eq_iff_iff, List.all_eq_true, decide_eq_true_eq]
    constructor
    · intro hh
      apply List.ext_getElem (by omega)
      intro j h1 h2
      have := of_decide_eq_true (hh j (List.mem_range.2 (by omega)))
      rw [List.getD_eq_getElem?_getD, List.getD_eq_getElem?_getD, List.getElem?_eq_getElem h1, List.getElem?_eq_getElem h2] at this
      exact this
    · rintro rfl j _
      simp
  rw [e] at h
  simp only [binOp]
  simp [Op.equal, Op.maxDepth, h]
set_option maxRecDepth 100000 in
set_option maxHeartbeats 2000000 in
theorem rload_full (b : List Nat) (ba o c : Nat) (w : World) (hl : b.length = 104) (hba : All 256 b) (hbs : Bs w ba o b) (hb : ba < w.heap.size) (hc : 104 ≤ c) :
    Calls Tryd.prog 59 #[.slice (some ⟨ba, o, none⟩) 104 c] w fun e w' => Below w.heap.size w w' ∧
      ((loadErr b ≠ 0 ∧ e = .returned (.tuple #[.agg rzero.toArray, .int .i64 (loadErr b : Int)])) ∨
       (loadErr b = 0 ∧ ∃ A' n' c', e = .returned (.tuple #[.agg (rh (wordsOf b) (numOf b - numOf b % 64) (.slice A' n' c')).toArray, .int .i64 0]) ∧ Own w' w.heap.size (.slice A' n' c') ((restOf b).take (numOf b % 64)))) := by
  obtain ⟨W, hW⟩ : ∃ W, W = wordsOf b := ⟨_, rfl⟩
  have hWl : W.length = 8 := by rw [hW]; exact wordsOf_len b
  obtain ⟨P, hP⟩ : ∃ P, P = restOf b := ⟨_, rfl⟩
  have hPl : P.length = 64 := by rw [hP]; unfold restOf; rw [List.length_take, List.length_drop, hl]; omega
  have hPg : ∀ j, j < 64 → P.getD j 0 = b.getD (32 + j) 0 := fun j hj => by
    rw [hP]
    unfold restOf
    rw [List.getD_eq_getElem?_getD, List.getElem?_take_of_lt hj, List.getElem?_drop, List.getD_eq_getElem?_getD]
  obtain ⟨T, hT⟩ : ∃ T, T = b.drop 96 := ⟨_, rfl⟩
  have hTl : T.length = 8 := by rw [hT, List.length_drop, hl]
  have hTg : ∀ j, j < 8 → T.getD j 0 = b.getD (96 + j) 0 := fun j hj => by
    rw [hT, List.getD_eq_getElem?_getD, List.getElem?_drop, List.getD_eq_getElem?_getD]
  have hTa : All 256 T := by rw [hT]; exact hba.drop _
  have HW := Lib.hid hW; have HWL := Lib.hid hWl; have HP := Lib.hid hP; have HPL := Lib.hid hPl; have HPG := Lib.hid hPg; have HTT := Lib.hid hT; have HTL := Lib.hid hTl; have HTG := Lib.hid hTg; have HTA := Lib.hid hTa
  have HL := Lib.hid hl; have HBA := Lib.hid hba; have HBS := Lib.hid hbs
  have hcell : ∀ V : World, Below w.heap.size w V → ∀ j, j < 104 → V.cell? ⟨ba, o + j, none⟩ = some (.int .u8 ((b.getD j 0 : Nat) : Int)) := fun V hV j hj => (hV.cell (p := ⟨ba, o + j, none⟩) hb).trans (hbs j (by rw [hl]; exact hj))
  have HCELL := Lib.hid hcell
  clear hW hWl hP hPl hPg hT hTl hTg hTa hl hba hbs hcell
  go_enter Tryd.func59, Tryd.ntmps59
  go_wp2
  go_loopw [4, 5] (fun v i wr => ∃ j : Nat, j ≤ 8 ∧ i = .int .i64 ((96 + j : Nat) : Int) ∧ v = .int .u64 (num8 (T.take j) : Nat) ∧ Below w.heap.size w wr ∧ Blk wr w.heap.size 58 rzero.toArray) (fun _ i _ => 104 - (intOf i).toNat)
  case atStart => exact ⟨0, by omega, rfl, rfl, (Below.refl _ _).alloc (Nat.le_refl _) _, Blk.new w 58 rzero.toArray⟩
  case round =>
    obtain ⟨j, hj, rfl, rfl, hbel, B0⟩ := hrel
    obtain ⟨tk, htk⟩ : ∃ tk, tk = num8 (T.take j) := ⟨_, rfl⟩
    rw [← htk]
    have hs := hbel.size
    by_cases hlt : j < 8
    · obtain ⟨x, hx⟩ : ∃ x, T[j]? = some x := ⟨_, List.getElem?_eq_getElem (by rw [HTL.out]; exact hlt)⟩
      have hx2 : x < 256 := HTA.out x (List.mem_of_getElem? hx)
      have hgx : T.getD j 0 = x := by rw [List.getD_eq_getElem?_getD, hx]; rfl
      have c0 : wr.cell? ⟨ba, o + (96 + j), none⟩ = some (.int .u8 (x : Int)) := by
        have := HCELL.out wr hbel (96 + j) (by omega)
        rw [← HTG.out j hlt, hgx] at this
        exact this
      have htk7 : tk < 256 ^ 7 := by
        have h1 := num8_lt (T.take j) (fun y hy => HTA.out y (List.mem_of_mem_take hy))
        rw [← htk] at h1
        refine Nat.lt_of_lt_of_le h1 (Nat.pow_le_pow_right (by decide) ?_)
        rw [List.length_take]
        omega
      have nx : num8 (T.take (j + 1)) = tk * 256 + x := by rw [List.take_add_one, hx, htk]; exact num8_push _ _
      obtain ⟨q, hq⟩ : ∃ q, q = 96 + j := ⟨_, rfl⟩
      rw [← hq] at c0 ⊢
      have i0 : (0 : Int) ≤ (q : Int) := by omega
      have i1 : (q : Int) < 104 := by omega
      have t0 : (0 : Int) ≤ (tk : Int) := by omega
      have t1 : (tk : Int) ≤ 72057594037927935 := by omega
      have x0 : (0 : Int) ≤ (x : Int) := by omega
      have x1 : (x : Int) < 256 := by omega
      have HQ := Lib.hid hq; have NX := Lib.hid nx; have HB0 := Lib.hid B0
      clear hq nx hx hgx htk htk7 B0
      go_wp2
      go_roundw
      case rel =>
        refine ⟨j + 1, by omega, ?_, ?_, hbel, HB0.out⟩
        · have := HQ.out; first | (rw [show q + 1 = 96 + (j + 1) by omega]) | (rw [show (q : Int) + 1 = ((96 + (j + 1) : Nat) : Int) by omega])
        · rw [NX.out]
          first | rfl | (congr 1) | (simp)
      case measure => have := HQ.out; simp [intOf]; omega
    · have ej : j = 8 := by omega
      subst ej
      have e8 : tk = numOf b := by rw [htk, List.take_of_length_le (by rw [HTL.out]; omega), HTT.out]; rfl
      have tkl : tk < 18446744073709551616 := by
        have h1 := num8_lt (T.take 8) (fun y hy => HTA.out y (List.mem_of_mem_take hy))
        rw [← htk] at h1
        refine Nat.lt_of_lt_of_le h1 (Nat.pow_le_pow_right (by decide) (show (T.take 8).length ≤ 8 from ?_))
        rw [List.length_take]
        omega
      have hlen : b.length = 104 := HL.out
      have B0' : Blk wr w.heap.size 58 ([] ++ rzero ++ []).toArray := by rw [List.nil_append, List.append_nil]; exact B0
      by_cases hN : 1152921504606846976 < tk
      · have q0 : decide ((tk : Int) > 1152921504606846976) = true := decide_eq_true (by omega)
        have q1 : decide (1152921504606846976 < (tk : Int)) = true := decide_eq_true (by omega)
        have eE : loadErr b = 22 := by
          unfold loadErr
          rw [if_neg (by omega), if_neg (by omega), ← e8, if_pos hN]
        have EE := Lib.hid eE; have HB0 := Lib.hid B0'
        clear eE htk e8 hlen B0 B0' hN tkl
        go_wp2_with (refine wpl_store rfl 58 _ _ rfl w.heap.size 0 rfl 58 [] rzero [] rzero rfl HB0.out rfl rfl (by kernel_rfl) (rh_one _ _ _ rfl) ?_; intro w3 B3 O3)
        exact bodyPost_ret (results_ct rfl _ _ w.heap.size 58 rzero.toArray (0, 0) _ rfl (by have h9 := B3; rw [List.nil_append, List.append_nil] at h9; exact h9) Tryd.underlying58 rfl (by kernel_rfl)) rfl ⟨O3.below hbel (Nat.le_refl _), .inl ⟨by rw [EE.out]; decide, by rw [EE.out]; rfl⟩⟩
      · have q0 : decide ((tk : Int) > 1152921504606846976) = false := decide_eq_false (by omega)
        have q1 : decide (1152921504606846976 < (tk : Int)) = false := decide_eq_false (by omega)
        obtain ⟨m, hm⟩ : ∃ m, m = tk % 64 := ⟨_, rfl⟩
        have hm64 : m < 64 := by omega
        have r1 : (tk : Int) % 64 = (m : Int) := by omega
        have r2 : Int.tmod (tk : Int) 64 = (m : Int) := by rw [Int.tmod_eq_emod_of_nonneg (by omega)]; exact r1
        have r3 : (0 : Int) ≤ (m : Int) := by omega
        have r4 : (m : Int) < 64 := by omega
        have hmt : m ≤ tk := by omega
        have HB0 := Lib.hid B0'; have HE8 := Lib.hid e8; have HLEN := Lib.hid hlen; have HNN := Lib.hid hN; have HMM := Lib.hid hm; have HMT := Lib.hid hmt
        clear B0 B0' e8 hlen htk hN tkl hm hmt hlt hj
        go_wp2
        go_loopw [7] (fun v ws => ∃ i : Nat, i ≤ 64 - m ∧ v = .int .i64 ((32 + m + i : Nat) : Int) ∧ ws = wr ∧ ∀ l, l < i → P.getD (m + l) 0 = 0) (fun v _ => 96 - (intOf v).toNat)
        case atStart => exact ⟨0, by omega, by simp, rfl, fun l hl => absurd hl (by omega)⟩
        case round =>
          obtain ⟨i, hi, rfl, rfl, hz⟩ := hrel
          by_cases hlt : i < 64 - m
          · obtain ⟨x, hx⟩ : ∃ x, x = P.getD (m + i) 0 := ⟨_, rfl⟩
            have c0 : wr.cell? ⟨ba, o + (32 + m + i), none⟩ = some (.int .u8 (x : Int)) := by
              have h := HCELL.out wr hbel (32 + m + i) (by omega)
              rw [show 32 + m + i = 32 + (m + i) by omega, ← HPG.out (m + i) (by omega), ← hx] at h
              rw [show 32 + m + i = 32 + (m + i) by omega]
              exact h
            obtain ⟨q, hq⟩ : ∃ q, q = 32 + m + i := ⟨_, rfl⟩
            rw [← hq] at c0 ⊢
            have i0 : (0 : Int) ≤ (q : Int) := by omega
            have i1 : (q : Int) < 96 := by omega
            have i2 : (q : Int) < 104 := by omega
            have HX := Lib.hid hx; have HZ := Lib.hid hz; have HQ := Lib.hid hq
            clear hx hz hq
            by_cases hx0 : x = 0
            · have HX0 := Lib.hid hx0
              have hx1 : (x : Int) = 0 := by omega
              clear hx0
              go_wp2
              go_roundw
              case rel =>
                refine ⟨i + 1, by omega, ?_, by first | rfl | trivial, fun l hl => ?_⟩
                · have := HQ.out; rw [show (q : Int) + 1 = ((32 + m + (i + 1) : Nat) : Int) by omega]
                · rcases Nat.lt_or_ge l i with h | h
                  · exact HZ.out l h
                  · rw [show l = i by omega, ← HX.out, HX0.out]
              case measure => have := HQ.out; simp [intOf]; omega
            · have hx1 : ¬ ((x : Int) = 0) := by omega
              have eE : loadErr b = 22 := by
                have hlen := HLEN.out
                unfold loadErr
                rw [if_neg (by omega), if_neg (by omega), ← HE8.out, if_neg HNN.out, ← HP.out, ← HMM.out, if_neg]
                intro hall
                have h1 := List.all_eq_true.1 hall x (by
                  rw [HX.out, List.getD_eq_getElem?_getD, List.getElem?_eq_getElem (by rw [HPL.out]; omega)]
                  exact List.mem_iff_getElem.2 ⟨i, by rw [List.length_drop, HPL.out]; omega, by rw [List.getElem_drop]; rfl⟩)
                exact hx0 (by simpa using h1)
              have EE := Lib.hid eE
              clear eE hx0
              go_wp2_with (refine wpl_store rfl 58 _ _ rfl w.heap.size 0 rfl 58 [] rzero [] rzero rfl HB0.out rfl rfl (by kernel_rfl) (rh_one _ _ _ rfl) ?_; intro w3 B3 O3)
              exact bodyPost_ret (results_ct rfl _ _ w.heap.size 58 rzero.toArray (0, 0) _ rfl (by have h9 := B3; rw [List.nil_append, List.append_nil] at h9; exact h9) Tryd.underlying58 rfl (by kernel_rfl)) rfl ⟨O3.below hbel (Nat.le_refl _), .inl ⟨by rw [EE.out]; decide, by rw [EE.out]; rfl⟩⟩
          · have hiz : i = 64 - m := by omega
            have eq96 : 32 + m + i = 96 := by omega
            rw [eq96]
            have hall : (P.drop m).all (· == 0) = true := by
              refine List.all_eq_true.2 fun x hx => ?_
              obtain ⟨l, hl, rfl⟩ := List.mem_iff_getElem.1 hx
              rw [List.length_drop, HPL.out] at hl
              have h := hz l (by omega)
              rw [List.getD_eq_getElem?_getD, List.getElem?_eq_getElem (by rw [HPL.out]; omega)] at h
              rw [List.getElem_drop]
              simpa using h
            have hQc : C8 wr (some ⟨ba, o + 32, none⟩) m (P.take m) := by
              have h : Bs wr ba (o + 32) (P.take m) := fun j hj => by
                rw [List.length_take, HPL.out] at hj
                have h1 := HCELL.out wr hbel (32 + j) (by omega)
                rw [show o + (32 + j) = o + 32 + j by omega, ← HPG.out j (by omega)] at h1
                have h2 : (P.take m).getD j 0 = P.getD j 0 := by rw [List.getD_eq_getElem?_getD, List.getElem?_take_of_lt (by omega), List.getD_eq_getElem?_getD]
                rw [h1, h2]
                rfl
              have h2 := C8.of_Bs h (by rw [List.length_take, HPL.out]; omega)
              rwa [show (P.take m).length = m by rw [List.length_take, HPL.out]; omega] at h2
            obtain ⟨Q, hQ⟩ : ∃ Q, Q = P.take m := ⟨_, rfl⟩
            have hQl : m = Q.length := by rw [hQ, List.length_take, HPL.out]; omega
            rw [← hQ] at hQc
            have hQc' : C8 wr (some ⟨ba, o + 32, none⟩) Q.length Q := by rw [← hQl]; exact hQc
            have HALL := Lib.hid hall; have HQ := Lib.hid hQ; have HQL := Lib.hid hQl; have HQC := Lib.hid hQc'
            clear hall hz hiz eq96 hQc hQ hQl hQc'
            have t0 : (0 : Int) ≤ (tk : Int) := by have := HMT.out; omega
            have t1 : (m : Int) ≤ (tk : Int) := by have := HMT.out; omega
            have t2 : (tk : Int) ≤ 1152921504606846976 + 0 := by have := HNN.out; omega
            have c1 : ¬ (c = 32) := by omega
            have c2 : 32 + (m : Int) ≤ (c : Int) := by omega
            have c3 : (32 + (m : Int)).toNat = 32 + m := by omega
            go_upto_region 19 with (first
              | (at_builtin; refine wpl_append rfl _ _ _ rfl info_byte Tryd.underlying22 w.heap.size (.slice (some ⟨wr.heap.size, 0, none⟩) 0 0) [] rfl (Own.nil_alloc wr _ _ rfl hs) _ _ _ Q rfl (by have := HQL.out; omega) (HQC.out.below ((Below.refl _ _).alloc (Nat.le_refl _) _)) (by have := HQL.out; simp; omega) (by simp; omega) ?_
                 intro v2 w2 O2 G2 _
                 rw [List.nil_append] at O2
                 have hb2 : Below w.heap.size w w2 := (hbel.alloc hs _).grown G2 (by simp; omega) (by simp [Value.ownBlock]; omega)
                 have B2 := (HB0.out.alloc _).grown G2 (by have := HB0.out.lt; simp [Value.ownBlock]; omega)
                 obtain ⟨A2, n2, c2_, hn2, hv2, hC2⟩ := O2.arg_
                 subst hv2
                 have HB2 := Lib.hid B2
                 clear G2 hn2 hC2 B2))
            obtain ⟨past, hpast⟩ : ∃ past, past = tk - m := ⟨_, rfl⟩
            have hpi : (tk : Int) - (m : Int) = (past : Int) := by omega
            obtain ⟨w3, hw3⟩ : ∃ V, V = w2.alloc (.cells (rh (List.replicate 8 0) past (.slice A2 n2 c2_)).toArray 58) := ⟨_, rfl⟩
            rw [hpi]
            change Code.wp _ _ _ _ (w2.alloc (.cells (rh (List.replicate 8 0) past (.slice A2 n2 c2_)).toArray 58))
            rw [← hw3]
            have s2 := hb2.size
            have hb3 : Below w.heap.size w w3 := by rw [hw3]; exact hb2.alloc s2 _
            have O3 : Own w3 w.heap.size (.slice A2 n2 c2_) Q := by rw [hw3]; exact O2.alloc _
            have B3 : Blk w3 w2.heap.size 58 (rh (rg b 0) past (.slice A2 n2 c2_)).toArray := by rw [hw3, rg_zero]; exact Blk.new w2 58 _
            have Z3 : Blk w3 w.heap.size 58 ([] ++ rzero ++ []).toArray := by rw [hw3]; exact HB2.out.alloc _
            have gne : w.heap.size < w2.heap.size := by have := HB2.out.lt; omega
            have HPA := Lib.hid hpast
            clear O2 hb2 HB2 hw3 hbel hs hpi hpast t0 t1 t2 c1 c2 c3 r1 r2 r3 r4 q0 q1
            go_wp2
            go_loopw [9] (fun v ws => ∃ k : Nat, k ≤ 32 ∧ v = .int .i64 (k : Int) ∧ Below w.heap.size w ws ∧ Own ws w.heap.size (.slice A2 n2 c2_) Q ∧ Blk ws w2.heap.size 58 (rh (rg b k) past (.slice A2 n2 c2_)).toArray ∧ Blk ws w.heap.size 58 ([] ++ rzero ++ []).toArray) (fun v _ => 32 - (intOf v).toNat)
            case atStart => exact ⟨0, by omega, rfl, hb3, O3, B3, Z3⟩
            case round =>
              clear hb3 O3 B3 Z3
              obtain ⟨k, hk, rfl, hb3, O3, B3, Z3⟩ := hrel
              by_cases hlt : k < 32
              · obtain ⟨q, hq⟩ : ∃ q, q = k / 4 := ⟨_, rfl⟩
                obtain ⟨y, hy⟩ : ∃ y, y = (rg b k).getD q 0 := ⟨_, rfl⟩
                have hyl : y < 16777216 := by rw [hy, hq]; exact rg_lt b HBA.out k hlt
                obtain ⟨x, hx⟩ : ∃ x, x = b.getD k 0 := ⟨_, rfl⟩
                have hxl : x < 256 := by rw [hx]; exact HBA.out.getD (by decide) _
                have hq8 : q < 8 := by omega
                have g5 : wr.cell? ⟨w2.heap.size, q, none⟩ = some (.int .u32 (y : Int)) := by rw [hy]; exact rh_reg B3 q (by rw [rg_len]; exact hq8)
                have f5 := B3.frozen q
                have c0 : wr.cell? ⟨ba, o + k, none⟩ = some (.int .u8 (x : Int)) := by rw [hx]; exact HCELL.out wr hb3 k (by omega)
                have nst : rg b (k + 1) = (rg b k).set q (y * 256 + x) := by rw [hy, hq]; exact (rg_step b HLEN.out k x hlt hx).symm
                have i0 : (0 : Int) ≤ (k : Int) := by omega
                have i1 : (k : Int) < 32 := by omega
                have i2 : (k : Int) < 104 := by omega
                have d0 : Int.tdiv (k : Int) 4 = (q : Int) := by rw [Int.tdiv_eq_ediv_of_nonneg i0]; omega
                have d1 : (k : Int) / 4 = (q : Int) := by omega
                have d2 : (0 : Int) ≤ (q : Int) := by omega
                have d3 : (q : Int) < 8 := by omega
                have u3 : IntKind.i64.wrap (q : Int) = (q : Int) := IntWalk.i64_in _ (by omega)
                have d4 : ((k : Int) / 4).toNat = q := by omega
                have d5 : (Int.tdiv (k : Int) 4).toNat = q := by rw [d0]; omega
                have u0 : IntKind.u32.wrap ((y : Int) * 256) = (y : Int) * 256 := by show ((y : Int) * 256) % 4294967296 = _; omega
                have u1 : IntKind.u32.wrap ((y : Int) * 256 + (x : Int)) = (y : Int) * 256 + (x : Int) := by show ((y : Int) * 256 + (x : Int)) % 4294967296 = _; omega
                have u2 : IntKind.u32.wrap (x : Int) = (x : Int) := by show (x : Int) % 4294967296 = _; omega
                have x0 : (0 : Int) ≤ (x : Int) := by omega
                have x1 : (x : Int) < 256 := by omega
                have NST := Lib.hid nst; have HB3 := Lib.hid B3; have HO3 := Lib.hid O3; have HZ3 := Lib.hid Z3
                clear nst B3 O3 Z3 hy hx hq hq8 hyl hxl
                go_wp2
                go_still_tail 16, (by kernel_rfl)
                change wpList _ _ _ _ _ wr.drew
                clear d0 d1 d4 d5 u0 u1 u2 u3
                go_wp2
                refine ⟨⟨k + 1, by omega, by go_num, (hb3.setCell (by show w.heap.size ≤ w2.heap.size; omega) _).drew, ?_, ?_, ?_⟩, by simp [intOf]; omega⟩
                · exact (HO3.out.farR q _ (HO3.out.ne HB3.out (by decide))).below ⟨rfl, rfl, rfl, Nat.le_refl _, fun _ _ => rfl⟩
                · have h := (HB3.out.set_ q (v32 (y * 256 + x))).drew
                  rw [rh_set _ _ _ _ _ (by rw [rg_len]; omega), ← NST.out] at h
                  exact h
                · exact (HZ3.out.far (p := ⟨w2.heap.size, q, none⟩) (by show w.heap.size ≠ w2.heap.size; omega) _).drew
              · have ek : k = 32 := by omega
                subst ek
                rw [rg_full b HLEN.out, ← HW.out] at B3
                have HO3 := Lib.hid O3; have HZ3 := Lib.hid Z3; have HB3 := Lib.hid B3
                have t0 : (0 : Int) ≤ (tk : Int) := by omega
                by_cases h64 : tk < 64
                · have q64 : (tk : Int) < 64 := by omega
                  obtain ⟨w0, w1, w2_, w3_, w4, w5, w6, w7, hW8⟩ := eight_of W HWL.out
                  have hreg : ∀ l, l < 8 → wr.cell? ⟨w2.heap.size, l, none⟩ = some (v32 (W.getD l 0)) := fun l hl => rh_reg B3 l (by rw [HWL.out]; exact hl)
                  rw [hW8] at hreg
                  have g0 : wr.cell? ⟨w2.heap.size, 0, none⟩ = some (.int .u32 (w0 : Int)) := hreg 0 (by decide)
                  have g1 : wr.cell? ⟨w2.heap.size, 1, none⟩ = some (.int .u32 (w1 : Int)) := hreg 1 (by decide)
                  have g2 : wr.cell? ⟨w2.heap.size, 2, none⟩ = some (.int .u32 (w2_ : Int)) := hreg 2 (by decide)
                  have g3 : wr.cell? ⟨w2.heap.size, 3, none⟩ = some (.int .u32 (w3_ : Int)) := hreg 3 (by decide)
                  have g4 : wr.cell? ⟨w2.heap.size, 4, none⟩ = some (.int .u32 (w4 : Int)) := hreg 4 (by decide)
                  have g5 : wr.cell? ⟨w2.heap.size, 5, none⟩ = some (.int .u32 (w5 : Int)) := hreg 5 (by decide)
                  have g6 : wr.cell? ⟨w2.heap.size, 6, none⟩ = some (.int .u32 (w6 : Int)) := hreg 6 (by decide)
                  have g7 : wr.cell? ⟨w2.heap.size, 7, none⟩ = some (.int .u32 (w7 : Int)) := hreg 7 (by decide)
                  obtain ⟨d, hd⟩ : ∃ d, d = decide (W = first) := ⟨_, rfl⟩
                  have hneq : ∀ V : World, (binOp .neq 56 (.agg #[.int .u32 (w0 : Int), .int .u32 (w1 : Int), .int .u32 (w2_ : Int), .int .u32 (w3_ : Int), .int .u32 (w4 : Int), .int .u32 (w5 : Int), .int .u32 (w6 : Int), .int .u32 (w7 : Int)]) (.agg #[.int .u32 1779033703, .int .u32 3144134277, .int .u32 1013904242, .int .u32 2773480762, .int .u32 1359893119, .int .u32 2600822924, .int .u32 528734635, .int .u32 1541459225])).run Tryd.prog V = .ok (.bool (!d)) V := fun V => by
                    have h := run_neq56 W first HWL.out rfl V
                    rw [← hd, hW8] at h
                    exact h
                  have HD := Lib.hid hd; have HW8 := Lib.hid hW8; have H64 := Lib.hid h64
                  clear hreg hd hW8 h64 O3 Z3 B3
                  have gz := HB3.out.lt
                  go_wp2
                  go_region_held3 (fun w' => w'.cell? ⟨w2.heap.size, 0, none⟩ = some (.int .u32 (w0 : Int)) ∧ w'.cell? ⟨w2.heap.size, 1, none⟩ = some (.int .u32 (w1 : Int)) ∧ w'.cell? ⟨w2.heap.size, 2, none⟩ = some (.int .u32 (w2_ : Int)) ∧ w'.cell? ⟨w2.heap.size, 3, none⟩ = some (.int .u32 (w3_ : Int)) ∧ w'.cell? ⟨w2.heap.size, 4, none⟩ = some (.int .u32 (w4 : Int)) ∧ w'.cell? ⟨w2.heap.size, 5, none⟩ = some (.int .u32 (w5 : Int)) ∧ w'.cell? ⟨w2.heap.size, 6, none⟩ = some (.int .u32 (w6 : Int)) ∧ w'.cell? ⟨w2.heap.size, 7, none⟩ = some (.int .u32 (w7 : Int))) (first | assumption | go_keep)
                    ((go_at_call 46; (with_reducible refine (rbegin_any _).mono ?_); rintro e w4_ ⟨rfl, hb4⟩
                      have hx : ∀ (l : Nat) (x : Value), wr.cell? ⟨w2.heap.size, l, none⟩ = some x → w4_.cell? ⟨w2.heap.size, l, none⟩ = some x := fun l x h => (hb4.cell (p := ⟨w2.heap.size, l, none⟩) gz).trans h
                      have hbE : Below w.heap.size w w4_ := Below.trans (show Below w.heap.size w wr.drew from ⟨hb3.os, hb3.tape, hb3.output, hb3.size, hb3.block⟩) (hb4.mono hb3.size)
                      have B4 : Blk w4_ w2.heap.size 58 (rh W past (.slice A2 n2 c2_)).toArray := (hb4.block _ gz).trans HB3.out
                      have Z4 : Blk w4_ w.heap.size 58 ([] ++ rzero ++ []).toArray := (hb4.block _ (by have := HZ3.out.lt; exact this)).trans HZ3.out
                      have OE : Own w4_ w.heap.size (.slice A2 n2 c2_) Q := own_move HO3.out (fun k hk => hb4.block k (own_lt HO3.out k hk))
                      have x0 := hx 0 _ g0
                      have x1 := hx 1 _ g1
                      have x2 := hx 2 _ g2
                      have x3 := hx 3 _ g3
                      have x4 := hx 4 _ g4
                      have x5 := hx 5 _ g5
                      have x6 := hx 6 _ g6
                      have x7 := hx 7 _ g7
                      clear hx))
                  have HBE : Hid (Blk w4_ w2.heap.size 58 ([] ++ rh W past (.slice A2 n2 c2_) ++ []).toArray) := by rw [List.nil_append, List.append_nil]; exact B4
                  have HZE := Lib.hid Z4
                  clear x0 x1 x2 x3 x4 x5 x6 x7 g0 g1 g2 g3 g4 g5 g6 g7 B4 Z4 hb4
                  cases d with
                  | true =>
                    have eE : loadErr b = 0 := by
                      have hlen := HLEN.out
                      unfold loadErr
                      rw [if_neg (by omega), if_neg (by omega), ← HE8.out, if_neg HNN.out, ← HP.out, ← HMM.out, if_pos HALL.out, if_neg (fun h => h.2 (by rw [← HW.out]; exact of_decide_eq_true HD.out.symm))]
                    have EE := Lib.hid eE
                    clear eE
                    go_wp2_with (first
                      | (refine wpl_load rfl 58 _ rfl w2.heap.size 0 rfl 58 [] (rh W past (.slice A2 n2 c2_)) [] HBE.out rfl _ Tryd.underlying58 rfl (by rw [rh_len _ _ _ HWL.out]; kernel_rfl) ?_)
                      | (refine wpl_store rfl 58 _ _ rfl w.heap.size 0 rfl 58 [] rzero [] (rh W past (.slice A2 n2 c2_)) rfl HZE.out rfl (by rw [rh_len _ _ _ HWL.out]; rfl) (by rw [rh_len _ _ _ HWL.out]; kernel_rfl) (rh_one _ _ _ rfl) ?_; intro w9 B9 O9))
                    exact bodyPost_ret (results_ct rfl _ _ w.heap.size 58 (rh W past (.slice A2 n2 c2_)).toArray (0, 0) _ rfl (by have h9 := B9; rw [List.nil_append, List.append_nil] at h9; exact h9) Tryd.underlying58 rfl (by rw [show (rh W past (Value.slice A2 n2 c2_)).toArray.size = 10 by rw [List.size_toArray]; exact rh_len _ _ _ HWL.out]; kernel_rfl)) rfl
                      ⟨O9.below hbE (Nat.le_refl _), .inr ⟨EE.out, A2, n2, c2_, by rw [← HW.out, ← HE8.out, ← HMM.out, ← HPA.out]; rfl, by rw [← HE8.out, ← HMM.out, ← HP.out, ← HQ.out]; exact OE.only O9 (OE.ne HZE.out (by decide))⟩⟩
                  | false =>
                    have eE : loadErr b = 22 := by
                      have hlen := HLEN.out
                      unfold loadErr
                      rw [if_neg (by omega), if_neg (by omega), ← HE8.out, if_neg HNN.out, ← HP.out, ← HMM.out, if_pos HALL.out, if_pos ⟨H64.out, by rw [← HW.out]; exact of_decide_eq_false HD.out.symm⟩]
                    have EE := Lib.hid eE
                    clear eE
                    go_wp2_with (refine wpl_store rfl 58 _ _ rfl w.heap.size 0 rfl 58 [] rzero [] rzero rfl HZE.out rfl rfl (by kernel_rfl) (rh_one _ _ _ rfl) ?_; intro w9 B9 O9)
                    exact bodyPost_ret (results_ct rfl _ _ w.heap.size 58 rzero.toArray (0, 0) _ rfl (by have h9 := B9; rw [List.nil_append, List.append_nil] at h9; exact h9) Tryd.underlying58 rfl (by kernel_rfl)) rfl ⟨O9.below hbE (Nat.le_refl _), .inl ⟨by rw [EE.out]; decide, by rw [EE.out]; rfl⟩⟩
                · have q64 : ¬ ((tk : Int) < 64) := by omega
                  have q65 : decide ((tk : Int) < 64) = false := decide_eq_false (by omega)
                  have H64 := Lib.hid h64
                  have eE : loadErr b = 0 := by
                    have hlen := HLEN.out
                    have h64 := H64.out
                    unfold loadErr
                    rw [if_neg (by omega), if_neg (by omega), ← HE8.out, if_neg HNN.out, ← HP.out, ← HMM.out, if_pos HALL.out, if_neg (fun h => h64 h.1)]
                  have EE := Lib.hid eE
                  clear O3 Z3 B3 h64 eE
                  go_wp2
                  go_quiet (fail)
                  have hbE : Below w.heap.size w (wr.drewN nq) := ⟨hb3.os, hb3.tape, hb3.output, hb3.size, hb3.block⟩
                  have HBE : Hid (Blk (wr.drewN nq) w2.heap.size 58 ([] ++ rh W past (.slice A2 n2 c2_) ++ []).toArray) := by rw [List.nil_append, List.append_nil]; exact HB3.out
                  have HZE : Hid (Blk (wr.drewN nq) w.heap.size 58 ([] ++ rzero ++ []).toArray) := HZ3
                  have OE : Own (wr.drewN nq) w.heap.size (.slice A2 n2 c2_) Q := own_move HO3.out (fun k hk => rfl)
                  go_wp2_with (first
                    | (refine wpl_load rfl 58 _ rfl w2.heap.size 0 rfl 58 [] (rh W past (.slice A2 n2 c2_)) [] HBE.out rfl _ Tryd.underlying58 rfl (by rw [rh_len _ _ _ HWL.out]; kernel_rfl) ?_)
                    | (refine wpl_store rfl 58 _ _ rfl w.heap.size 0 rfl 58 [] rzero [] (rh W past (.slice A2 n2 c2_)) rfl HZE.out rfl (by rw [rh_len _ _ _ HWL.out]; rfl) (by rw [rh_len _ _ _ HWL.out]; kernel_rfl) (rh_one _ _ _ rfl) ?_; intro w9 B9 O9))
                  exact bodyPost_ret (results_ct rfl _ _ w.heap.size 58 (rh W past (.slice A2 n2 c2_)).toArray (0, 0) _ rfl (by have h9 := B9; rw [List.nil_append, List.append_nil] at h9; exact h9) Tryd.underlying58 rfl (by rw [show (rh W past (Value.slice A2 n2 c2_)).toArray.size = 10 by rw [List.size_toArray]; exact rh_len _ _ _ HWL.out]; kernel_rfl)) rfl
                    ⟨O9.below hbE (Nat.le_refl _), .inr ⟨EE.out, A2, n2, c2_, by rw [← HW.out, ← HE8.out, ← HMM.out, ← HPA.out]; rfl, by rw [← HE8.out, ← HMM.out, ← HP.out, ← HQ.out]; exact OE.only O9 (OE.ne HZE.out (by decide))⟩⟩
theorem rload_any (b : List Nat) (A : Option Addr) (n c : Nat) (w : World) (hn : n = b.length) (hc : n ≤ c) (hba : All 256 b) (hC : C8 w A b.length b) :
    Calls Tryd.prog 59 #[.slice A n c] w fun e w' => Below w.heap.size w w' ∧
      ((loadErr b ≠ 0 ∧ e = .returned (.tuple #[.agg rzero.toArray, .int .i64 (loadErr b : Int)])) ∨
       (loadErr b = 0 ∧ ∃ A' n' c', e = .returned (.tuple #[.agg (rh (wordsOf b) (numOf b - numOf b % 64) (.slice A' n' c')).toArray, .int .i64 0]) ∧ Own w' w.heap.size (.slice A' n' c') ((restOf b).take (numOf b % 64)))) := by
  rcases Nat.lt_or_ge n 104 with h | h
  · have e : loadErr b = 3 := by unfold loadErr; rw [if_pos (by omega)]
    exact (rload_short A n c w h).mono fun x w' ⟨h1, h2⟩ => ⟨h2, .inl ⟨by rw [e]; decide, by rw [e]; exact h1⟩⟩
  · rcases Nat.lt_or_ge 104 n with h' | h'
    · have e : loadErr b = 4 := by unfold loadErr; rw [if_neg (by omega), if_pos (by omega)]
      exact (rload_long A n c w h').mono fun x w' ⟨h1, h2⟩ => ⟨h2, .inl ⟨by rw [e]; decide, by rw [e]; exact h1⟩⟩
    · obtain rfl : n = 104 := by omega
      obtain ⟨ba, o, rfl, hlt, hbs⟩ := hC.at_ (by omega)
      exact rload_full b ba o c w hn.symm hba hbs hlt hc
end Go.Proofs.YtfedlgcpgfofjaaDoor.Sha
