/-
  Load: what the call does, walked.
-/
import Derived.Test.YtfedlgcpgfofjaaDoorDSave
import Derived.Deep.DeepCutAuto
namespace Go.Proofs.YtfedlgcpgfofjaaDoor.Sha
open Go.RowKit Go.Proofs.YtfedlgcpgfofjaaDoorW.PrintWords
set_option linter.unusedVariables false
set_option linter.unusedSimpArgs false
/-- A number, the highest byte first. -/
def num8 (l : List Nat) : Nat := l.foldl (fun n b => n * 256 + b) 0
theorem num8_push (l : List Nat) (x : Nat) : num8 (l ++ [x]) = num8 l * 256 + x := by unfold num8; rw [List.foldl_append]; rfl
theorem num8_acc (l : List Nat) : ∀ (acc m : Nat), acc < 256 ^ m → All 256 l → l.foldl (fun n b => n * 256 + b) acc < 256 ^ (m + l.length) := by
  induction l with
  | nil => intro acc m h _; exact h
  | cons x l ih =>
    intro acc m h ha
    have h2 : x < 256 := ha x (by simp)
    have := ih (acc * 256 + x) (m + 1) (by rw [Nat.pow_succ]; omega) (fun y hy => ha y (by simp [hy]))
    rw [List.length_cons, show m + (l.length + 1) = m + 1 + l.length by omega]
    exact this
theorem num8_lt (l : List Nat) (h : All 256 l) : num8 l < 256 ^ l.length := by
  have := num8_acc l 0 0 (by decide) h
  rwa [Nat.zero_add] at this
theorem take_set (W : List Nat) (k x : Nat) (hk : k < 8) (hW : W.length = 8) (hx : W[k]? = some x) : (W.take k ++ List.replicate (8 - k) 0).set k x = W.take (k + 1) ++ List.replicate (8 - (k + 1)) 0 := by
  have hl : (W.take k).length = k := by rw [List.length_take]; omega
  rw [List.set_append_right _ _ (by omega), hl, Nat.sub_self, show 8 - k = (8 - (k + 1)) + 1 by omega, List.replicate_succ, List.set_cons_zero, List.take_add_one, hx, List.append_assoc]
  rfl
theorem u64_or (a b : Nat) (ha : a < 18446744073709551616) (hb : b < 18446744073709551616) : bits .or .u64 (a : Int) (b : Int) = ((a ||| b : Nat) : Int) := by
  have hx : a ||| b < 18446744073709551616 := Nat.or_lt_two_pow (n := 64) ha hb
  have e1 : ∀ x : Nat, x < 18446744073709551616 → (BitVec.ofInt 64 (x : Int)).toNat = x := fun x h => by simp; omega
  show IntKind.u64.wrap ((BitVec.ofInt 64 (a : Int) ||| BitVec.ofInt 64 (b : Int)).toNat : Int) = _
  rw [BitVec.toNat_or, e1 a ha, e1 b hb]
  show ((_ : Int) % 18446744073709551616) = _
  omega
theorem join8 (tk x : Nat) (ht : tk < 256 ^ 7) (hx : x < 256) : bits .or .u64 ((tk : Int) * 256) (x : Int) = ((tk * 256 + x : Nat) : Int) := by
  rw [show (tk : Int) * 256 = ((tk * 2 ^ 8 : Nat) : Int) by simp, u64_or _ _ (by omega) (by omega), or_add tk x 8 hx]
def wordsOf (b : List Nat) : List Nat := (List.range 8).map (word4 b)
def restOf (b : List Nat) : List Nat := (b.drop 32).take 64
def numOf (b : List Nat) : Nat := num8 (b.drop 96)
/-- What Load says of bytes. -/
def loadErr (b : List Nat) : Nat :=
  if b.length < 104 then 3 else if 104 < b.length then 4 else if 1152921504606846976 < numOf b then 22 else
  if ((restOf b).drop (numOf b % 64)).all (· == 0) then (if numOf b < 64 ∧ wordsOf b ≠ first then 22 else 0) else 22
theorem wordsOf_at (b : List Nat) (k : Nat) (h : k < 8) : (wordsOf b)[k]? = some (word4 b k) := by simp [wordsOf, h]
theorem wordsOf_len (b : List Nat) : (wordsOf b).length = 8 := by simp [wordsOf]
theorem hset_reg (R rest : List Nat) (tk k x : Nat) (hk : k < R.length) : (hcells R rest tk).toArray.setIfInBounds k (v32 x) = (hcells (R.set k x) rest tk).toArray := by
  apply Array.ext'
  rw [Array.toList_setIfInBounds]
  unfold hcells
  rw [List.append_assoc, List.set_append_left _ _ (by rw [List.length_map]; exact hk), List.append_assoc, List.map_set]
theorem hset_tk (R rest : List Nat) (tk x : Nat) (hR : R.length = 8) (hr : rest.length = 64) : (hcells R rest tk).toArray.setIfInBounds 72 (.int .u64 (x : Int)) = (hcells R rest x).toArray := by
  apply Array.ext'
  rw [Array.toList_setIfInBounds]
  unfold hcells
  rw [List.set_append_right _ _ (by simp [hR, hr])]
  simp [hR, hr]
theorem hcell_reg (R rest : List Nat) (tk k : Nat) (hk : k < R.length) : (hcells R rest tk).toArray[k]? = some (v32 (R.getD k 0)) := by
  unfold hcells
  rw [List.getElem?_toArray, List.append_assoc, List.getElem?_append_left (by rw [List.length_map]; exact hk), List.getElem?_map, List.getElem?_eq_getElem hk, List.getD_eq_getElem?_getD, List.getElem?_eq_getElem hk]
  rfl
theorem info55_size : (Tryd.prog.info? 55).map (·.size) = some 1 := by kernel_rfl
theorem cells55 : Tryd.prog.cellsOf 55 = 1 := by kernel_rfl
theorem run_eqItems_u32 (d : Nat) (D E : List Nat) (W : World) : ∀ (is : List Nat), (∀ i ∈ is, i < D.length ∧ i < E.length) →
    (Op.eqItems (d + 1) 55 1 (D.map v32).toArray (E.map v32).toArray is).run Tryd.prog W = .ok (is.all fun i => decide (D.getD i 0 = E.getD i 0)) W
  | [], _ => rfl
  | i :: is, h => by
    obtain ⟨h1, h2⟩ := h i (by simp)
    have hp : ∀ (L : List Nat), i < L.length → (part 55 (L.map v32).toArray (i * 1)).run Tryd.prog W = .ok (.int .u32 (L.getD i 0 : Nat)) W := fun L hL => by
      have hagg : (isAgg 55).run Tryd.prog W = .ok false W := by
        unfold isAgg
        rw [Sem.run_bind, run_underlying Tryd.underlying55 W]
        rfl
      have hg : (L.map v32).toArray[i * 1]? = some (.int .u32 (L.getD i 0 : Nat)) := by
        rw [Nat.mul_one, List.getElem?_toArray, List.getElem?_map, List.getElem?_eq_getElem hL, List.getD_eq_getElem?_getD, List.getElem?_eq_getElem hL]
        rfl
      simp only [part, Sem.run_bind, hagg, Result.andThen_ok, Bool.false_eq_true, if_false, hg, Sem.run_pure]
    have he := run_equalIn_int (P := Tryd.prog) W d 55 .u32 .u32 (D.getD i 0 : Nat) (E.getD i 0 : Nat) Tryd.underlying55
    have ih := run_eqItems_u32 d D E W is (fun j hj => h j (by simp [hj]))
    simp only [Op.eqItems, Sem.run_bind, hp D h1, hp E h2, Result.andThen_ok, he, List.all_cons]
    by_cases hx : D.getD i 0 = E.getD i 0
    · have hb : (((D.getD i 0 : Nat) : Int) == ((E.getD i 0 : Nat) : Int)) = true := by rw [hx]; simp
      rw [hb, decide_eq_true hx]
      simpa using ih
    · have hb : (((D.getD i 0 : Nat) : Int) == ((E.getD i 0 : Nat) : Int)) = false := by
        rw [Bool.eq_false_iff]; intro h; exact hx (by have := eq_of_beq h; omega)
      rw [hb, decide_eq_false hx]
      rfl
theorem run_neq73 (D E : List Nat) (hD : D.length = 8) (hE : E.length = 8) (W : World) :
    (binOp .neq 73 (.agg (D.map v32).toArray) (.agg (E.map v32).toArray)).run Tryd.prog W = .ok (.bool (!decide (D = E))) W := by
  obtain ⟨i, hi⟩ : ∃ i, Tryd.prog.info? 55 = some i := by
    have := info55_size
    cases h : Tryd.prog.info? 55 with
    | none => rw [h] at this; cases this
    | some i => exact ⟨i, rfl⟩
  have h := run_equalIn_array (P := Tryd.prog) W 9999 (D.map v32).toArray (E.map v32).toArray Tryd.underlying73 hi
  rw [cells55, run_eqItems_u32 9998 D E W _ (fun i hi => by have := List.mem_range.1 hi; omega)] at h
  have e : ((List.range 8).all fun i => decide (D.getD i 0 = E.getD i 0)) = decide (D = E) := by
    rw [Bool.eq_iff_iff, List.all_eq_true, decide_eq_true_eq]
    constructor
    · intro hh
      apply List.ext_getElem (by omega)
      intro j h1 h2
      have := of_decide_eq_true (hh j (List.mem_range.2 (by omega)))
      rw [List.getD_eq_getElem?_getD, List.getD_eq_getElem?_getD, List.getElem?_eq_getElem h1, List.getElem?_eq_getElem h2] at this
      exact this
    · rintro rfl j _
      simp
  rw [e] at h
  simp only [binOp]
  simp [Op.equal, Op.maxDepth, h]
theorem load_short (A : Option Addr) (n c : Nat) (w : World) (h : n < 104) :
    Calls Tryd.prog 45 #[.slice A n c] w fun e w' => e = .returned (.tuple #[.pointer none, .int .i64 3]) ∧ Below w.heap.size w w' := by
  have i0 : (n : Int) < 104 := by omega
  go_enter Tryd.func45, Tryd.ntmps45
  go_wp2
  exact bodyPost_ret (results_tmp2 rfl _ _ _) rfl ⟨rfl, Below.refl _ _⟩
theorem load_long (A : Option Addr) (n c : Nat) (w : World) (h : 104 < n) :
    Calls Tryd.prog 45 #[.slice A n c] w fun e w' => e = .returned (.tuple #[.pointer none, .int .i64 4]) ∧ Below w.heap.size w w' := by
  have i0 : ¬ (n : Int) < 104 := by omega
  have i1 : (n : Int) > 104 := by omega
  go_enter Tryd.func45, Tryd.ntmps45
  go_wp2
  exact bodyPost_ret (results_tmp2 rfl _ _ _) rfl ⟨rfl, Below.refl _ _⟩
set_option maxRecDepth 100000 in
set_option maxHeartbeats 2000000 in
theorem load_full (b : List Nat) (ba o c : Nat) (w : World) (hl : b.length = 104) (hba : All 256 b) (hbs : Bs w ba o b) (hb : ba < w.heap.size) (hc : 104 ≤ c) (hf : TabF w) :
    Calls Tryd.prog 45 #[.slice (some ⟨ba, o, none⟩) 104 c] w fun e w' => Below w.heap.size w w' ∧
      ((loadErr b ≠ 0 ∧ e = .returned (.tuple #[.pointer none, .int .i64 (loadErr b : Int)])) ∨
       (loadErr b = 0 ∧ e = .returned (.tuple #[.pointer (some ⟨w.heap.size, 0, none⟩), .int .i64 0]) ∧ Blk w' w.heap.size 76 (hcells (wordsOf b) (restOf b) (numOf b)).toArray)) := by
  obtain ⟨W, hW⟩ : ∃ W, W = wordsOf b := ⟨_, rfl⟩
  have hWl : W.length = 8 := by rw [hW]; exact wordsOf_len b
  have hWat : ∀ k, k < 8 → W[k]? = some (word4 b k) := fun k hk => by rw [hW]; exact wordsOf_at b k hk
  have HW := Lib.hid hW; have HWL := Lib.hid hWl; have HWAT := Lib.hid hWat; have HL := Lib.hid hl; have HBA := Lib.hid hba; have HBS := Lib.hid hbs; have HF := Lib.hid hf
  clear hW hWl hWat hl hba hbs hf
  go_enter Tryd.func45, Tryd.ntmps45
  go_wp2
  go_loopw [20, 5] (fun i _ wr => ∃ k : Nat, k ≤ 8 ∧ i = .int .i64 (k : Int) ∧ Below w.heap.size w wr ∧ Blk wr w.heap.size 76 (hcells (W.take k ++ List.replicate (8 - k) 0) (List.replicate 64 0) 0).toArray) (fun i _ _ => 8 - (intOf i).toNat)
  case atStart => exact ⟨0, by omega, rfl, (Below.refl _ _).alloc (Nat.le_refl _) _, Blk.new w 76 (hcells (List.replicate 8 0) (List.replicate 64 0) 0).toArray⟩
  case round =>
    obtain ⟨k, hk, rfl, hbel, B0⟩ := hrel
    by_cases hlt : k < 8
    · have cc : ∀ j, j < 4 → ∃ x : Nat, x = b.getD (4 * k + j) 0 ∧ x < 256 ∧ wr.cell? ⟨ba, o + (4 * k + j), none⟩ = some (.int .u8 (x : Int)) := fun j hj => ⟨_, rfl, HBA.out.getD (by decide) _, (hbel.cell (p := ⟨ba, o + (4 * k + j), none⟩) hb).trans (HBS.out (4 * k + j) (by rw [HL.out]; omega))⟩
      obtain ⟨x0, e0, l0, g0⟩ := cc 0 (by omega)
      obtain ⟨x1, e1, l1, g1⟩ := cc 1 (by omega)
      obtain ⟨x2, e2, l2, g2⟩ := cc 2 (by omega)
      obtain ⟨x3, e3, l3, g3⟩ := cc 3 (by omega)
      have E0 := Lib.hid e0; have E1 := Lib.hid e1; have E2 := Lib.hid e2; have E3 := Lib.hid e3
      clear e0 e1 e2 e3 cc
      have hRl : (W.take k ++ List.replicate (8 - k) 0).length = 8 := by rw [List.length_append, List.length_take, List.length_replicate, HWL.out]; omega
      have g5 : wr.cell? ⟨w.heap.size, k, none⟩ = some (.int .u32 (((W.take k ++ List.replicate (8 - k) 0).getD k 0 : Nat) : Int)) := (B0.cell k).trans (hcell_reg _ _ _ k (by rw [hRl]; exact hlt))
      have f5 := B0.frozen k
      rw [Nat.add_zero] at g0
      have HRL := Lib.hid hRl; have HB0 := Lib.hid B0
      clear hRl B0
      have ak : (0 : Int) ≤ (k : Int) := by omega
      have bk : (k : Int) < 8 := by omega
      have n0 : (4 * (k : Int)).toNat = 4 * k := by omega
      have n1 : (4 * (k : Int) + 1).toNat = 4 * k + 1 := by omega
      have n2 : (4 * (k : Int) + 2).toNat = 4 * k + 2 := by omega
      have n3 : (4 * (k : Int) + 3).toNat = 4 * k + 3 := by omega
      have a0 : (0 : Int) ≤ 4 * (k : Int) := by omega
      have a1 : (0 : Int) ≤ 4 * (k : Int) + 1 := by omega
      have a2 : (0 : Int) ≤ 4 * (k : Int) + 2 := by omega
      have a3 : (0 : Int) ≤ 4 * (k : Int) + 3 := by omega
      have b0 : 4 * (k : Int) < 104 := by omega
      have b1 : 4 * (k : Int) + 1 < 104 := by omega
      have b2 : 4 * (k : Int) + 2 < 104 := by omega
      have b3 : 4 * (k : Int) + 3 < 104 := by omega
      have m0 : IntKind.i64.wrap (4 * (k : Int)) = 4 * (k : Int) := IntWalk.i64_in _ (by omega)
      have m1 : IntKind.i64.wrap (4 * (k : Int) + 1) = 4 * (k : Int) + 1 := IntWalk.i64_in _ (by omega)
      have m2 : IntKind.i64.wrap (4 * (k : Int) + 2) = 4 * (k : Int) + 2 := IntWalk.i64_in _ (by omega)
      have m3 : IntKind.i64.wrap (4 * (k : Int) + 3) = 4 * (k : Int) + 3 := IntWalk.i64_in _ (by omega)
      go_wp2
      go_still_tail 38, (by kernel_rfl)
      change wpList _ _ _ _ _ wr.drew
      go_wp2
      refine ⟨⟨k + 1, by omega, by go_num, (hbel.setCell (Nat.le_refl _) _).drew, ?_⟩, by simp [intOf]; omega⟩
      rw [join4 x0 x1 x2 x3 l0 l1 l2 l3]
      have h := (HB0.out.set_ k (v32 (((x0 * 256 + x1) * 256 + x2) * 256 + x3))).drew
      rw [hset_reg _ _ _ _ _ (by rw [HRL.out]; exact hlt), take_set W k _ hlt HWL.out (by rw [HWAT.out k hlt, E0.out, E1.out, E2.out, E3.out, Nat.add_zero]; rfl)] at h
      exact h
    · have e8 : W.take k ++ List.replicate (8 - k) 0 = W := by rw [show k = 8 by omega, List.take_of_length_le (by rw [HWL.out]; omega)]; simp
      rw [e8] at B0
      have t0 : ¬ ((k : Int) < 8) := by omega
      obtain ⟨P, hP⟩ : ∃ P, P = restOf b := ⟨_, rfl⟩
      have hPl : P.length = 64 := by rw [hP]; unfold restOf; rw [List.length_take, List.length_drop, HL.out]; omega
      have hsrc : ∀ V : World, Below w.heap.size w V → ∀ j v, (P.map v8)[j]? = some v → V.cell? ((Addr.mk ba (o + 32) none).add j) = some v := fun V hV j v hv => by
        rw [Addr.add_mid, hV.cell (p := ⟨ba, o + 32 + j, none⟩) hb]
        rw [List.getElem?_map] at hv
        obtain ⟨x, hx, rfl⟩ := Option.map_eq_some_iff.1 hv
        have hj := (List.getElem?_eq_some_iff.1 hx).1
        have e := HBS.out (32 + j) (by rw [HL.out]; omega)
        rw [show o + (32 + j) = o + 32 + j by omega] at e
        rw [e]
        rw [hP] at hx
        unfold restOf at hx
        rw [List.getElem?_take_of_lt (by omega), List.getElem?_drop] at hx
        rw [List.getD_eq_getElem?_getD, hx]
        rfl
      have HP := Lib.hid hP; have HPL := Lib.hid hPl; have HSRC := Lib.hid hsrc; have HB0 := Lib.hid B0
      have c1 : (96 : Int) ≤ (c : Int) := by omega
      have c2 : (104 : Int) ≤ (c : Int) := by omega
      have c3 : ¬ (c = 32) := by omega
      have c4 : ¬ (c = 96) := by omega
      clear hP hPl hsrc B0 e8
      have hs := hbel.size
      go_upto_region 11 with fail
      go_still_tail 6, (by kernel_rfl)
      change wpList _ _ _ _ _ wr.drew
      have hb5 : Below w.heap.size w wr.drew := ⟨hbel.os, hbel.tape, hbel.output, hbel.size, hbel.block⟩
      have B5 : Blk wr.drew w.heap.size 76 (W.map v32 ++ (List.replicate 64 0).map v8 ++ [Value.int .u64 ((0 : Nat) : Int)]).toArray := HB0.out.drew
      have hs5 := HSRC.out _ hb5
      have HS5 := Lib.hid hs5; have HB5 := Lib.hid B5
      clear hs5 B5
      go_wp2_with (
        refine wpl_copy_n rfl _ _ _ _ rfl 5 Tryd.underlying22 (by kernel_rfl) _ _ _ _ _ _ rfl rfl w.heap.size 8 76 (W.map v32) ((List.replicate 64 0).map v8) [Value.int .u64 ((0 : Nat) : Int)] (P.map v8) HB5.out (by rw [List.length_map, HWL.out]) (by rw [List.length_map, List.length_map, HPL.out, List.length_replicate]) (by rw [List.length_map, HPL.out]; rfl) (fun _ => ⟨rfl, _, rfl, HS5.out⟩) (v8_one P) 64 (by rw [List.length_map, HPL.out]) ?_
        intro w6 B6 O6
        have hb6 : Below w.heap.size w w6 := O6.below hb5 (Nat.le_refl _)
        have B6' : Blk w6 w.heap.size 76 (hcells W P 0).toArray := B6
        clear B6 O6 hb5)
      obtain ⟨T, hT⟩ : ∃ T, T = b.drop 96 := ⟨_, rfl⟩
      have hTl : T.length = 8 := by rw [hT, List.length_drop, HL.out]
      have hTa : All 256 T := by rw [hT]; exact HBA.out.drop _
      have hTc : ∀ j, j < 8 → w.cell? ⟨ba, o + 96 + j, none⟩ = some (.int .u8 (T.getD j 0 : Nat)) := fun j hj => by
        have e := HBS.out (96 + j) (by rw [HL.out]; omega)
        rw [show o + (96 + j) = o + 96 + j by omega] at e
        rw [e, hT, List.getD_eq_getElem?_getD, List.getD_eq_getElem?_getD, List.getElem?_drop]
        rfl
      have HTL := Lib.hid hTl; have HTA := Lib.hid hTa; have HTC := Lib.hid hTc; have HTT := Lib.hid hT
      clear hT hTl hTa hTc
      go_loopw [72, 7] (fun v _ ws => ∃ j : Nat, j ≤ 8 ∧ v = .int .i64 (j : Int) ∧ Below w.heap.size w ws ∧ Blk ws w.heap.size 76 (hcells W P (num8 (T.take j))).toArray) (fun v _ _ => 8 - (intOf v).toNat)
      case atStart => exact ⟨0, by omega, rfl, hb6, B6'⟩
      case round =>
        clear hb6 B6' hbel hs t0 hlt hk
        obtain ⟨j, hj, rfl, hbel, B0⟩ := hrel
        obtain ⟨tk, htk⟩ : ∃ tk, tk = num8 (T.take j) := ⟨_, rfl⟩
        rw [← htk] at B0
        have c72 : wr.cell? ⟨w.heap.size, 72, none⟩ = some (.int .u64 (tk : Int)) := (B0.cell 72).trans (hcells_72 W P tk HWL.out HPL.out)
        by_cases hlt : j < 8
        · obtain ⟨x, hx⟩ : ∃ x, T[j]? = some x := ⟨_, List.getElem?_eq_getElem (by rw [HTL.out]; exact hlt)⟩
          have hx2 : x < 256 := HTA.out x (List.mem_of_getElem? hx)
          have hgx : T.getD j 0 = x := by rw [List.getD_eq_getElem?_getD, hx]; rfl
          have c0 : wr.cell? ⟨ba, o + 96 + j, none⟩ = some (.int .u8 (x : Int)) := by
            have := HTC.out j hlt
            rw [hgx] at this
            exact (hbel.cell (p := ⟨ba, o + 96 + j, none⟩) hb).trans this
          have htk7 : tk < 256 ^ 7 := by
            have h1 := num8_lt (T.take j) (fun y hy => HTA.out y (List.mem_of_mem_take hy))
            rw [← htk] at h1
            refine Nat.lt_of_lt_of_le h1 (Nat.pow_le_pow_right (by decide) ?_)
            rw [List.length_take]
            omega
          have nx : num8 (T.take (j + 1)) = tk * 256 + x := by rw [List.take_add_one, hx, htk]; exact num8_push _ _
          have f72 := B0.frozen 72
          have w1 : IntKind.u64.wrap ((tk : Int) * 256) = (tk : Int) * 256 := by show ((tk : Int) * 256) % 18446744073709551616 = _; omega
          have hne : ∀ (V : World) (u : Value), (V.setCell ⟨w.heap.size, 72, none⟩ u).cell? ⟨ba, o + 96 + j, none⟩ = V.cell? ⟨ba, o + 96 + j, none⟩ := fun V u => World.cell?_setCell_other V _ _ u (by intro e; injection e; omega)
          have j8 := join8 tk x htk7 hx2
          have i0 : (0 : Int) ≤ (j : Int) := by omega
          have i1 : (j : Int) < 8 := by omega
          have tk0 : (0 : Int) ≤ (tk : Int) := by omega
          have HB0 := Lib.hid B0; have NX := Lib.hid nx; have J8 := Lib.hid j8
          clear B0 hx hgx nx htk htk7 j8
          go_wp2
          refine ⟨⟨j + 1, by omega, by go_num, hbel.setCell (Nat.le_refl _) _, ?_⟩, by simp [intOf]; omega⟩
          rw [J8.out]
          have h := HB0.out.set_ 72 (.int .u64 ((tk * 256 + x : Nat) : Int))
          rw [hset_tk W P tk (tk * 256 + x) HWL.out HPL.out] at h
          rw [NX.out]
          exact h
        · have e8 : tk = numOf b := by rw [htk, List.take_of_length_le (by rw [HTL.out]; omega), HTT.out]; rfl
          have t0 : ¬ ((j : Int) < 8) := by omega
          have tkl : tk < 18446744073709551616 := by
            have h1 := num8_lt (T.take j) (fun y hy => HTA.out y (List.mem_of_mem_take hy))
            rw [← htk] at h1
            refine Nat.lt_of_lt_of_le h1 (Nat.pow_le_pow_right (by decide) (show (T.take j).length ≤ 8 from ?_))
            rw [List.length_take]
            omega
          have i0 : (0 : Int) ≤ (tk : Int) := by omega
          have i1 : (tk : Int) < 18446744073709551616 := by omega
          have hlen : b.length = 104 := HL.out
          by_cases hN : 1152921504606846976 < tk
          · have q0 : (tk : Int) > 1152921504606846976 := by omega
            have eE : loadErr b = 22 := by
              unfold loadErr
              rw [if_neg (by omega), if_neg (by omega), ← e8, if_pos hN]
            have EE := Lib.hid eE
            clear eE htk e8 hlen
            go_wp2
            exact bodyPost_ret (results_tmp2 rfl _ _ _) rfl ⟨hbel, .inl ⟨by rw [EE.out]; decide, by rw [EE.out]; rfl⟩⟩
          · have q0 : decide ((tk : Int) > 1152921504606846976) = false := decide_eq_false (by omega)
            have q1 : decide (1152921504606846976 < (tk : Int)) = false := decide_eq_false (by omega)
            have HB0 := Lib.hid B0; have HE8 := Lib.hid e8; have HLEN := Lib.hid hlen; have HNN := Lib.hid hN
            clear B0 e8 hlen htk hN tkl
            go_wp2
            obtain ⟨m, hm⟩ : ∃ m, m = tk % 64 := ⟨_, rfl⟩
            have hm64 : m < 64 := by omega
            have r2 : (0 : Int) ≤ (tk : Int) % 64 := by omega
            have r5 : (tk : Int) % 64 ≤ 64 := by omega
            have r6 : ((tk : Int) % 64).toNat = m := by omega
            have j0 : Int.tmod (tk : Int) 64 = (tk : Int) % 64 := Int.tmod_eq_emod_of_nonneg i0
            have j2 : (0 : Int) ≤ Int.tmod (tk : Int) 64 := by rw [j0]; exact r2
            have j5 : Int.tmod (tk : Int) 64 ≤ 64 := by rw [j0]; exact r5
            have j6 : (Int.tmod (tk : Int) 64).toNat = m := by rw [j0]; exact r6
            have r7 : decide ((0 : Int) ≤ (tk : Int) % 64) = true := decide_eq_true r2
            have r8 : decide ((tk : Int) % 64 ≤ 64) = true := decide_eq_true r5
            clear j0
            go_region_held3 (fun w' => w'.cell? ⟨w.heap.size, 72, none⟩ = some (.int .u64 (tk : Int))) (first | assumption | go_keep) (fail)
            have e64 : ¬ (64 = tk % 64) := by omega
            rw [if_neg e64, ← hm]
            have HMM := Lib.hid hm
            have em : ((64 - m : Nat) : Int) = 64 - (m : Int) := by omega
            clear r2 r5 r6 j2 j5 j6 r7 r8 hm e64 i0 i1 q0 q1
            go_wp2
            go_loopw [103, 9] (fun v _ ws => ∃ i : Nat, i ≤ 64 - m ∧ v = .int .i64 (i : Int) ∧ ws = wr.drew ∧ ∀ l, l < i → P.getD (m + l) 0 = 0) (fun v _ _ => 64 - (intOf v).toNat)
            case atStart => exact ⟨0, by omega, rfl, rfl, fun l hl => absurd hl (by omega)⟩
            case round =>
              obtain ⟨i, hi, rfl, rfl, hz⟩ := hrel
              by_cases hlt3 : i < 64 - m
              · obtain ⟨x, hx⟩ : ∃ x, x = P.getD (m + i) 0 := ⟨_, rfl⟩
                have c0 : wr.drew.cell? ⟨w.heap.size, 8 + m + i, none⟩ = some (.int .u8 (x : Int)) := by
                  have h := (HB0.out.drew.cell (8 + (m + i))).trans (hcells_rest (tk := tk) HWL.out (m + i) (by rw [HPL.out]; omega))
                  rw [← hx, show 8 + (m + i) = 8 + m + i by omega] at h
                  exact h
                have i0 : (0 : Int) ≤ (i : Int) := by omega
                have i1 : (i : Int) < ((64 - m : Nat) : Int) := by omega
                have i2 : (i : Int) < 64 - (m : Int) := by omega
                have HX := Lib.hid hx; have HZ := Lib.hid hz
                clear hx hz
                by_cases hx0 : x = 0
                · have HX0 := Lib.hid hx0
                  have hx1 : (x : Int) = 0 := by omega
                  clear hx0
                  go_wp2
                  refine ⟨⟨i + 1, by omega, by go_num, ?_, fun l hl => ?_⟩, by simp [intOf]; omega⟩
                  · first | rfl | trivial
                  · rcases Nat.lt_or_ge l i with h | h
                    · exact HZ.out l h
                    · rw [show l = i by omega, ← HX.out, HX0.out]
                · have hx1 : ¬ ((x : Int) = 0) := by omega
                  have eE : loadErr b = 22 := by
                    have hlen := HLEN.out
                    unfold loadErr
                    rw [if_neg (by omega), if_neg (by omega), ← HE8.out, if_neg HNN.out, ← HP.out, ← HMM.out, if_neg]
                    intro hall
                    have h1 := List.all_eq_true.1 hall x (by
                      rw [HX.out, List.getD_eq_getElem?_getD, List.getElem?_eq_getElem (by rw [HPL.out]; omega)]
                      exact List.mem_iff_getElem.2 ⟨i, by rw [List.length_drop, HPL.out]; omega, by rw [List.getElem_drop]; rfl⟩)
                    exact hx0 (by simpa using h1)
                  have EE := Lib.hid eE
                  clear eE hx0
                  go_wp2
                  exact bodyPost_ret (results_tmp2 rfl _ _ _) rfl ⟨⟨hbel.os, hbel.tape, hbel.output, hbel.size, hbel.block⟩, .inl ⟨by rw [EE.out]; decide, by rw [EE.out]; rfl⟩⟩
              · have hiz : i = 64 - m := by omega
                have i1 : ¬ ((i : Int) < ((64 - m : Nat) : Int)) := by omega
                have i2 : ¬ ((i : Int) < 64 - (m : Int)) := by omega
                have hall : (P.drop m).all (· == 0) = true := by
                  refine List.all_eq_true.2 fun x hx => ?_
                  obtain ⟨l, hl, rfl⟩ := List.mem_iff_getElem.1 hx
                  rw [List.length_drop, HPL.out] at hl
                  have h := hz l (by omega)
                  rw [List.getD_eq_getElem?_getD, List.getElem?_eq_getElem (by rw [HPL.out]; omega)] at h
                  rw [List.getElem_drop]
                  simpa using h
                have HALL := Lib.hid hall
                clear hall hz hiz
                have hb9 : Below w.heap.size w wr.drew := ⟨hbel.os, hbel.tape, hbel.output, hbel.size, hbel.block⟩
                have c72' : wr.drew.cell? ⟨w.heap.size, 72, none⟩ = some (.int .u64 (tk : Int)) := c72
                have tk0 : (0 : Int) ≤ (tk : Int) := by omega
                have B9 : Blk wr.drew w.heap.size 76 (hcells W P tk).toArray := HB0.out.drew
                go_wp2
                by_cases h64 : tk < 64
                · have q64 : (tk : Int) < 64 := by omega
                  obtain ⟨w0, w1, w2, w3, w4, w5, w6, w7, hW8⟩ := eight_of W HWL.out
                  have hreg : ∀ l, l < 8 → wr.drew.cell? ⟨w.heap.size, l, none⟩ = some (v32 (W.getD l 0)) := fun l hl => (B9.cell l).trans (hcell_reg W P tk l (by rw [HWL.out]; exact hl))
                  have hfst : ∀ l, l < 8 → wr.drew.cell? ⟨0, l, none⟩ = some (v32 (first.getD l 0)) := fun l hl => (hb9.cell (p := ⟨0, l, none⟩) (show 0 < w.heap.size by omega)).trans (HF.out l hl)
                  rw [hW8] at hreg
                  have g0 : wr.drew.cell? ⟨w.heap.size, 0, none⟩ = some (.int .u32 (w0 : Int)) := hreg 0 (by decide)
                  have g1 : wr.drew.cell? ⟨w.heap.size, 1, none⟩ = some (.int .u32 (w1 : Int)) := hreg 1 (by decide)
                  have g2 : wr.drew.cell? ⟨w.heap.size, 2, none⟩ = some (.int .u32 (w2 : Int)) := hreg 2 (by decide)
                  have g3 : wr.drew.cell? ⟨w.heap.size, 3, none⟩ = some (.int .u32 (w3 : Int)) := hreg 3 (by decide)
                  have g4 : wr.drew.cell? ⟨w.heap.size, 4, none⟩ = some (.int .u32 (w4 : Int)) := hreg 4 (by decide)
                  have g5 : wr.drew.cell? ⟨w.heap.size, 5, none⟩ = some (.int .u32 (w5 : Int)) := hreg 5 (by decide)
                  have g6 : wr.drew.cell? ⟨w.heap.size, 6, none⟩ = some (.int .u32 (w6 : Int)) := hreg 6 (by decide)
                  have g7 : wr.drew.cell? ⟨w.heap.size, 7, none⟩ = some (.int .u32 (w7 : Int)) := hreg 7 (by decide)
                  have f0 : wr.drew.cell? ⟨0, 0, none⟩ = some (.int .u32 1779033703) := hfst 0 (by decide)
                  have f1 : wr.drew.cell? ⟨0, 1, none⟩ = some (.int .u32 3144134277) := hfst 1 (by decide)
                  have f2 : wr.drew.cell? ⟨0, 2, none⟩ = some (.int .u32 1013904242) := hfst 2 (by decide)
                  have f3 : wr.drew.cell? ⟨0, 3, none⟩ = some (.int .u32 2773480762) := hfst 3 (by decide)
                  have f4 : wr.drew.cell? ⟨0, 4, none⟩ = some (.int .u32 1359893119) := hfst 4 (by decide)
                  have f5 : wr.drew.cell? ⟨0, 5, none⟩ = some (.int .u32 2600822924) := hfst 5 (by decide)
                  have f6 : wr.drew.cell? ⟨0, 6, none⟩ = some (.int .u32 528734635) := hfst 6 (by decide)
                  have f7 : wr.drew.cell? ⟨0, 7, none⟩ = some (.int .u32 1541459225) := hfst 7 (by decide)
                  obtain ⟨d, hd⟩ : ∃ d, d = decide (W = first) := ⟨_, rfl⟩
                  have hneq : ∀ V : World, (binOp .neq 73 (.agg #[.int .u32 (w0 : Int), .int .u32 (w1 : Int), .int .u32 (w2 : Int), .int .u32 (w3 : Int), .int .u32 (w4 : Int), .int .u32 (w5 : Int), .int .u32 (w6 : Int), .int .u32 (w7 : Int)]) (.agg #[.int .u32 1779033703, .int .u32 3144134277, .int .u32 1013904242, .int .u32 2773480762, .int .u32 1359893119, .int .u32 2600822924, .int .u32 528734635, .int .u32 1541459225])).run Tryd.prog V = .ok (.bool (!d)) V := fun V => by
                    have h := run_neq73 W first HWL.out rfl V
                    rw [← hd, hW8] at h
                    exact h
                  have HD := Lib.hid hd; have HW8 := Lib.hid hW8; have HB9 := Lib.hid B9; have HBB := Lib.hid hb9; have H64 := Lib.hid h64
                  clear hreg hfst hd hW8 B9 hb9 h64 c72
                  go_region_held3 (fun w' => w'.cell? ⟨w.heap.size, 72, none⟩ = some (.int .u64 (tk : Int)) ∧
                    w'.cell? ⟨w.heap.size, 0, none⟩ = some (.int .u32 (w0 : Int)) ∧ w'.cell? ⟨w.heap.size, 1, none⟩ = some (.int .u32 (w1 : Int)) ∧ w'.cell? ⟨w.heap.size, 2, none⟩ = some (.int .u32 (w2 : Int)) ∧ w'.cell? ⟨w.heap.size, 3, none⟩ = some (.int .u32 (w3 : Int)) ∧ w'.cell? ⟨w.heap.size, 4, none⟩ = some (.int .u32 (w4 : Int)) ∧ w'.cell? ⟨w.heap.size, 5, none⟩ = some (.int .u32 (w5 : Int)) ∧ w'.cell? ⟨w.heap.size, 6, none⟩ = some (.int .u32 (w6 : Int)) ∧ w'.cell? ⟨w.heap.size, 7, none⟩ = some (.int .u32 (w7 : Int)) ∧
                    w'.cell? ⟨0, 0, none⟩ = some (.int .u32 1779033703) ∧ w'.cell? ⟨0, 1, none⟩ = some (.int .u32 3144134277) ∧ w'.cell? ⟨0, 2, none⟩ = some (.int .u32 1013904242) ∧ w'.cell? ⟨0, 3, none⟩ = some (.int .u32 2773480762) ∧ w'.cell? ⟨0, 4, none⟩ = some (.int .u32 1359893119) ∧ w'.cell? ⟨0, 5, none⟩ = some (.int .u32 2600822924) ∧ w'.cell? ⟨0, 6, none⟩ = some (.int .u32 528734635) ∧ w'.cell? ⟨0, 7, none⟩ = some (.int .u32 1541459225)) (first | assumption | go_keep) (fail)
                  have hbe : Below w.heap.size w wr.drew.drew := ⟨HBB.out.os, HBB.out.tape, HBB.out.output, HBB.out.size, HBB.out.block⟩
                  cases d with
                  | true =>
                    have eE : loadErr b = 0 := by
                      have hlen := HLEN.out
                      unfold loadErr
                      rw [if_neg (by omega), if_neg (by omega), ← HE8.out, if_neg HNN.out, ← HP.out, ← HMM.out, if_pos HALL.out, if_neg (fun h => h.2 (by rw [← HW.out]; exact of_decide_eq_true HD.out.symm))]
                    have EE := Lib.hid eE
                    clear eE
                    go_wp2
                    exact bodyPost_ret (results_tmp2 rfl _ _ _) rfl ⟨hbe, .inr ⟨EE.out, rfl, by rw [← HW.out, ← HP.out, ← HE8.out]; exact HB9.out⟩⟩
                  | false =>
                    have eE : loadErr b = 22 := by
                      have hlen := HLEN.out
                      unfold loadErr
                      rw [if_neg (by omega), if_neg (by omega), ← HE8.out, if_neg HNN.out, ← HP.out, ← HMM.out, if_pos HALL.out, if_pos ⟨H64.out, by rw [← HW.out]; exact of_decide_eq_false HD.out.symm⟩]
                    have EE := Lib.hid eE
                    clear eE
                    go_wp2
                    exact bodyPost_ret (results_tmp2 rfl _ _ _) rfl ⟨hbe, .inl ⟨by rw [EE.out]; decide, by rw [EE.out]; rfl⟩⟩
                · have q64 : ¬ ((tk : Int) < 64) := by omega
                  have q65 : decide ((tk : Int) < 64) = false := decide_eq_false (by omega)
                  have HB9 := Lib.hid B9; have HBB := Lib.hid hb9; have H64 := Lib.hid h64
                  clear B9 hb9 h64 c72
                  obtain ⟨wd, hwd⟩ : ∃ V, V = wr.drew := ⟨_, rfl⟩
                  rw [← hwd] at c72'
                  rw [← hwd]
                  have HWD := Lib.hid hwd
                  clear hwd
                  go_still_tail 12, (by kernel_rfl)
                  change wpList _ _ _ _ _ wd.drew
                  have eE : loadErr b = 0 := by
                    have hlen := HLEN.out
                    have h64 := H64.out
                    unfold loadErr
                    rw [if_neg (by omega), if_neg (by omega), ← HE8.out, if_neg HNN.out, ← HP.out, ← HMM.out, if_pos HALL.out, if_neg (fun h => h64 h.1)]
                  have EE := Lib.hid eE
                  clear eE
                  go_wp2
                  obtain rfl := HWD.out
                  exact bodyPost_ret (results_tmp2 rfl _ _ _) rfl ⟨⟨hbel.os, hbel.tape, hbel.output, hbel.size, hbel.block⟩, .inr ⟨EE.out, rfl, by rw [← HW.out, ← HP.out, ← HE8.out]; exact HB9.out⟩⟩
theorem load_any (b : List Nat) (A : Option Addr) (n c : Nat) (w : World) (hn : n = b.length) (hc : n ≤ c) (hba : All 256 b) (hC : C8 w A b.length b) (hf : TabF w) :
    Calls Tryd.prog 45 #[.slice A n c] w fun e w' => Below w.heap.size w w' ∧
      ((loadErr b ≠ 0 ∧ e = .returned (.tuple #[.pointer none, .int .i64 (loadErr b : Int)])) ∨
       (loadErr b = 0 ∧ e = .returned (.tuple #[.pointer (some ⟨w.heap.size, 0, none⟩), .int .i64 0]) ∧ Blk w' w.heap.size 76 (hcells (wordsOf b) (restOf b) (numOf b)).toArray)) := by
  rcases Nat.lt_or_ge n 104 with h | h
  · have e : loadErr b = 3 := by unfold loadErr; rw [if_pos (by omega)]
    exact (load_short A n c w h).mono fun x w' ⟨h1, h2⟩ => ⟨h2, .inl ⟨by rw [e]; decide, by rw [e]; exact h1⟩⟩
  · rcases Nat.lt_or_ge 104 n with h' | h'
    · have e : loadErr b = 4 := by unfold loadErr; rw [if_neg (by omega), if_pos (by omega)]
      exact (load_long A n c w h').mono fun x w' ⟨h1, h2⟩ => ⟨h2, .inl ⟨by rw [e]; decide, by rw [e]; exact h1⟩⟩
    · obtain rfl : n = 104 := by omega
      obtain ⟨ba, o, rfl, hlt, hbs⟩ := hC.at_ (by omega)
      exact load_full b ba o c w hn.symm hba hbs hlt hc hf
end Go.Proofs.YtfedlgcpgfofjaaDoor.Sha
