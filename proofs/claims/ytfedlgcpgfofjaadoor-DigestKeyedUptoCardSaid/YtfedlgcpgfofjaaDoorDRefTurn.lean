/-
  The reference's turn and round: what the calls do, walked.
-/
import Derived.Test.YtfedlgcpgfofjaaDoorDTurn
import Derived.StillTailTactics
namespace Go.Proofs.YtfedlgcpgfofjaaDoor.Sha
open Go.RowKit
set_option linter.unusedVariables false
theorem rround_any (x n : Nat) (w : World) (hx : x < 4294967296) (h0 : 1 ≤ n) (hn : n ≤ 31) :
    Calls Tryd.prog 66 #[.int .u32 x, .int .i64 n] w fun e w' => e = .returned (.int .u32 (rotr x n)) ∧ w = w' := by
  have h1 : (0 : Int) ≤ n := by omega
  have h2 : (n : Int) ≤ 31 := by omega
  have h3 : (0 : Int) ≤ x := by omega
  have h4 : (x : Int) < 4294967296 := by omega
  go_enter Tryd.func66, Tryd.ntmps66
  go_wp2
  go_ret
  refine ⟨?_, rfl⟩
  show Ending.returned (Value.int .u32 (bits .or .u32 ((x : Int) / 2 ^ n) ((x : Int) * 2 ^ (32 - n) % 4294967296))) = _
  rw [show ((x : Int) / 2 ^ n) = ((x / 2 ^ n : Nat) : Int) by simp, show ((x : Int) * 2 ^ (32 - n) % 4294967296) = ((x * 2 ^ (32 - n) % 4294967296 : Nat) : Int) by simp,
    u32_or _ _ (Nat.lt_of_le_of_lt (Nat.div_le_self _ _) hx) (Nat.mod_lt _ (by decide))]
  rfl
theorem rround_2 (x : Nat) (w : World) (hx : x < 4294967296) : Calls Tryd.prog 66 #[.int .u32 x, .int .i64 2] w fun e w' => e = .returned (.int .u32 (rotr x 2)) ∧ w = w' := rround_any x 2 w hx (by decide) (by decide)
theorem rround_6 (x : Nat) (w : World) (hx : x < 4294967296) : Calls Tryd.prog 66 #[.int .u32 x, .int .i64 6] w fun e w' => e = .returned (.int .u32 (rotr x 6)) ∧ w = w' := rround_any x 6 w hx (by decide) (by decide)
theorem rround_7 (x : Nat) (w : World) (hx : x < 4294967296) : Calls Tryd.prog 66 #[.int .u32 x, .int .i64 7] w fun e w' => e = .returned (.int .u32 (rotr x 7)) ∧ w = w' := rround_any x 7 w hx (by decide) (by decide)
theorem rround_11 (x : Nat) (w : World) (hx : x < 4294967296) : Calls Tryd.prog 66 #[.int .u32 x, .int .i64 11] w fun e w' => e = .returned (.int .u32 (rotr x 11)) ∧ w = w' := rround_any x 11 w hx (by decide) (by decide)
theorem rround_13 (x : Nat) (w : World) (hx : x < 4294967296) : Calls Tryd.prog 66 #[.int .u32 x, .int .i64 13] w fun e w' => e = .returned (.int .u32 (rotr x 13)) ∧ w = w' := rround_any x 13 w hx (by decide) (by decide)
theorem rround_17 (x : Nat) (w : World) (hx : x < 4294967296) : Calls Tryd.prog 66 #[.int .u32 x, .int .i64 17] w fun e w' => e = .returned (.int .u32 (rotr x 17)) ∧ w = w' := rround_any x 17 w hx (by decide) (by decide)
theorem rround_18 (x : Nat) (w : World) (hx : x < 4294967296) : Calls Tryd.prog 66 #[.int .u32 x, .int .i64 18] w fun e w' => e = .returned (.int .u32 (rotr x 18)) ∧ w = w' := rround_any x 18 w hx (by decide) (by decide)
theorem rround_19 (x : Nat) (w : World) (hx : x < 4294967296) : Calls Tryd.prog 66 #[.int .u32 x, .int .i64 19] w fun e w' => e = .returned (.int .u32 (rotr x 19)) ∧ w = w' := rround_any x 19 w hx (by decide) (by decide)
theorem rround_22 (x : Nat) (w : World) (hx : x < 4294967296) : Calls Tryd.prog 66 #[.int .u32 x, .int .i64 22] w fun e w' => e = .returned (.int .u32 (rotr x 22)) ∧ w = w' := rround_any x 22 w hx (by decide) (by decide)
theorem rround_25 (x : Nat) (w : World) (hx : x < 4294967296) : Calls Tryd.prog 66 #[.int .u32 x, .int .i64 25] w fun e w' => e = .returned (.int .u32 (rotr x 25)) ∧ w = w' := rround_any x 25 w hx (by decide) (by decide)
def Tab2 (w : World) : Prop := ∀ j, j < 64 → w.cell? ⟨2, j, none⟩ = some (v32 (roots.getD j 0))
/-- The first j bytes of word t. -/
def acc (p : List Nat) (t : Nat) : Nat → Nat
  | 0 => 0
  | j + 1 => (acc p t j * 256 + p.getD (4 * t + j) 0) % 4294967296
theorem acc_lt (p : List Nat) (t : Nat) : ∀ j, acc p t j < 4294967296
  | 0 => by unfold acc; decide
  | _ + 1 => Nat.mod_lt _ (by decide)
theorem acc_four {p : List Nat} (hp : All 256 p) (t : Nat) : acc p t 4 = word4 p t := by
  simp only [acc, word4, Nat.add_zero]
  have := hp.getD (by decide) (4 * t); have := hp.getD (by decide) (4 * t + 1); have := hp.getD (by decide) (4 * t + 2); have := hp.getD (by decide) (4 * t + 3)
  omega
theorem c32_eight (r : List Nat) (h : r.length = 8) : c32 r = #[.int .u32 (r.getD 0 0 : Nat), .int .u32 (r.getD 1 0 : Nat), .int .u32 (r.getD 2 0 : Nat), .int .u32 (r.getD 3 0 : Nat), .int .u32 (r.getD 4 0 : Nat), .int .u32 (r.getD 5 0 : Nat), .int .u32 (r.getD 6 0 : Nat), .int .u32 (r.getD 7 0 : Nat)] := by
  match r, h with
  | [_, _, _, _, _, _, _, _], _ => rfl
theorem quiet_add_left {P : Program} {f : FuncId} {args : Array Value} {w : World} {a n : Nat} {v : Value}
    (h : Calls P f args (w.drewN (a + n)) fun e w' => e = .returned v ∧ w.drewN (a + n) = w') : Calls P f args (w.drewN (a + n)) fun e w'' => e = .returned v ∧ ∃ m, w'' = w.drewN (a + m) :=
  h.mono fun _ _ ⟨he, hm⟩ => ⟨he, n, hm.symm⟩
theorem c32_set (l m : List Nat) (i x y : Nat) (hi : l.length = i) : (c32 (l ++ [x] ++ m)).setIfInBounds i (v32 y) = c32 (l ++ [y] ++ m) := by
  subst hi
  unfold c32
  rw [set_list, List.append_assoc, List.append_assoc, List.set_append_right _ _ (Nat.le_refl _), Nat.sub_self]
  rfl
theorem set_eight (cs : Array Value) (hs : cs.size = 8) (v0 v1 v2 v3 v4 v5 v6 v7 : Value) :
    (((((((cs.setIfInBounds 0 v0).setIfInBounds 1 v1).setIfInBounds 2 v2).setIfInBounds 3 v3).setIfInBounds 4 v4).setIfInBounds 5 v5).setIfInBounds 6 v6).setIfInBounds 7 v7 = #[v0, v1, v2, v3, v4, v5, v6, v7] := by
  obtain ⟨l⟩ := cs
  have hs' : l.length = 8 := hs
  clear hs
  match l, hs' with
  | [_, _, _, _, _, _, _, _], _ => simp only [List.setIfInBounds_toArray, List.set_cons_zero, List.set_cons_succ]
theorem Blk.eight {w : World} {g t : Nat} {cs : Array Value} (h : Blk w g t cs) (hs : cs.size = 8) (v0 v1 v2 v3 v4 v5 v6 v7 : Value) : Blk ((((((((w.setCell ⟨g, 0, none⟩ v0).setCell ⟨g, 1, none⟩ v1).setCell ⟨g, 2, none⟩ v2).setCell ⟨g, 3, none⟩ v3).setCell ⟨g, 4, none⟩ v4).setCell ⟨g, 5, none⟩ v5).setCell ⟨g, 6, none⟩ v6).setCell ⟨g, 7, none⟩ v7) g t #[v0, v1, v2, v3, v4, v5, v6, v7] := by
  have h8 := ((((((((h.set_ 0 v0).set_ 1 v1).set_ 2 v2).set_ 3 v3).set_ 4 v4).set_ 5 v5).set_ 6 v6).set_ 7 v7)
  rw [set_eight cs hs] at h8
  exact h8
theorem Blk.far_eight {w : World} {k g t : Nat} {cs : Array Value} (h : Blk w k t cs) (hne : k ≠ g) (v0 v1 v2 v3 v4 v5 v6 v7 : Value) : Blk ((((((((w.setCell ⟨g, 0, none⟩ v0).setCell ⟨g, 1, none⟩ v1).setCell ⟨g, 2, none⟩ v2).setCell ⟨g, 3, none⟩ v3).setCell ⟨g, 4, none⟩ v4).setCell ⟨g, 5, none⟩ v5).setCell ⟨g, 6, none⟩ v6).setCell ⟨g, 7, none⟩ v7) k t cs :=
  ((((((((h.far (p := ⟨g, 0, none⟩) hne v0).far (p := ⟨g, 1, none⟩) hne v1).far (p := ⟨g, 2, none⟩) hne v2).far (p := ⟨g, 3, none⟩) hne v3).far (p := ⟨g, 4, none⟩) hne v4).far (p := ⟨g, 5, none⟩) hne v5).far (p := ⟨g, 6, none⟩) hne v6).far (p := ⟨g, 7, none⟩) hne v7)
theorem below_eight {B : Nat} {a w : World} {g : Nat} (h : Below B a w) (hg : B ≤ g) (v0 v1 v2 v3 v4 v5 v6 v7 : Value) : Below B a ((((((((w.setCell ⟨g, 0, none⟩ v0).setCell ⟨g, 1, none⟩ v1).setCell ⟨g, 2, none⟩ v2).setCell ⟨g, 3, none⟩ v3).setCell ⟨g, 4, none⟩ v4).setCell ⟨g, 5, none⟩ v5).setCell ⟨g, 6, none⟩ v6).setCell ⟨g, 7, none⟩ v7) :=
  ((((((((h.setCell (p := ⟨g, 0, none⟩) hg v0).setCell (p := ⟨g, 1, none⟩) hg v1).setCell (p := ⟨g, 2, none⟩) hg v2).setCell (p := ⟨g, 3, none⟩) hg v3).setCell (p := ⟨g, 4, none⟩) hg v4).setCell (p := ⟨g, 5, none⟩) hg v5).setCell (p := ⟨g, 6, none⟩) hg v6).setCell (p := ⟨g, 7, none⟩) hg v7)
theorem cho_int' (e f g : Nat) (he : e < 4294967296) (hf : f < 4294967296) (hg : g < 4294967296) :
    bits .xor .u32 (bits .and .u32 (e : Int) (f : Int)) (bits .and .u32 (bits .xor .u32 IntKind.u32.max (e : Int)) (g : Int)) = ((cho e f g : Nat) : Int) := cho_int e f g he hf hg
theorem add_take (l R : List Nat) (k : Nat) (hk : k < l.length) (hR : R.length = l.length) : (c32 (l.take k ++ R.drop k)).setIfInBounds k (v32 (l.getD k 0)) = c32 (l.take (k + 1) ++ R.drop (k + 1)) := by
  have h1 : (l.take k).length = k := by rw [List.length_take]; omega
  have h2 : R.drop k = R[k] :: R.drop (k + 1) := (List.drop_eq_getElem_cons (by omega))
  rw [h2]
  have h3 := c32_set (l.take k) (R.drop (k + 1)) k R[k] (l.getD k 0) h1
  rw [List.append_assoc] at h3
  rw [show R[k] :: R.drop (k + 1) = [R[k]] ++ R.drop (k + 1) from rfl, h3, List.take_succ_eq_append_getElem hk, List.getD_eq_getElem?_getD, List.getElem?_eq_getElem hk]
  rfl
set_option maxRecDepth 100000 in
set_option maxHeartbeats 8000000 in
theorem rturn_any (r q : List Nat) (b o c at_ : Nat) (w : World) (hr : r.length = 8) (hra : All 4294967296 r) (hq : at_ + 64 ≤ q.length) (hq2 : q.length ≤ 140737488355328) (hqa : All 256 q)
    (hbs : Bs w b o q) (hb : b < w.heap.size) (ht : Tab2 w) (h2 : 2 < w.heap.size) :
    Calls Tryd.prog 65 #[.agg (c32 r), .slice (some ⟨b, o, none⟩) q.length c, .int .i64 at_] w fun e w' => e = .returned (.agg (c32 (turn r ((q.drop at_).take 64)))) ∧ Below w.heap.size w w' := by
  obtain ⟨p, hp⟩ : ∃ p, p = (q.drop at_).take 64 := ⟨_, rfl⟩
  have hpa : All 256 p := hp ▸ (hqa.drop _).take _
  have hpq : ∀ i, i < 64 → p.getD i 0 = q.getD (at_ + i) 0 := fun i hi => by rw [hp, getD_take _ _ _ hi, List.getD_eq_getElem?_getD, List.getElem?_drop, ← List.getD_eq_getElem?_getD]
  have hbp : ∀ j, j < 64 → w.cell? ⟨b, o + (at_ + j), none⟩ = some (.int .u8 (p.getD j 0 : Nat)) := fun j hj => by rw [hbs (at_ + j) (by omega), hpq j hj]; rfl
  rw [← hp]
  have HP := Lib.hid hp
  have HR := Lib.hid hr
  obtain ⟨T, hT⟩ : ∃ T, T = S64 p := ⟨_, rfl⟩
  have S64l : Hid (T.length = 64) := by rw [hT]; exact S64_len p
  have S64a : All 4294967296 T := by rw [hT]; exact S64_all hpa
  have HT0 := Lib.hid hT
  clear hT
  have HBP := Lib.hid hbp
  have HBS := Lib.hid hbs
  clear hbp hbs
  clear hp hpq hr
  go_enter Tryd.func65, Tryd.ntmps65
  go_wp2
  go_loopw [8] (fun i wr => ∃ t : Nat, t ≤ 64 ∧ i = .int .i64 t ∧ Below w.heap.size w wr ∧ Blk wr w.heap.size 56 (c32 r) ∧ Blk wr (w.heap.size + 1) 56 (c32 (List.replicate 8 0)) ∧ Blk wr (w.heap.size + 1 + 1) 91 (c32 (T.take t ++ List.replicate (64 - t) 0)) ∧ wr.heap.size = w.heap.size + 1 + 1 + 1) (fun i _ => 64 - (intOf i).toNat)
  case atStart =>
    refine ⟨0, by omega, rfl, (((Below.refl _ _).alloc (Nat.le_refl _) _).alloc (by simp) _).alloc (by simp; omega) _, ((Blk.new w 56 (c32 r)).alloc _).alloc _, (Blk.new_ (w.alloc _) 56 (c32 (List.replicate 8 0)) _ (by simp)).alloc _, Blk.new_ ((w.alloc _).alloc _) 91 _ _ (by simp), by simp⟩
  case round =>
    obtain ⟨t, ht64, rfl, hbel, B0, B1, B2, hsz⟩ := hrel
    have HS := Lib.hid hsz; clear hsz
    by_cases hlt : t < 64
    · by_cases hlo : t < 16
      · (
        have d1 : decide ((t : Int) < 64) = true := decide_eq_true (by omega)
        have d2 : decide ((t : Int) < 16) = true := decide_eq_true (by omega)
        go_wp2
        have B2' : Blk wr (w.heap.size + 1 + 1) 91 (c32 (T.take t ++ [acc p t 0] ++ List.replicate (63 - t) 0)) := by
          rw [show 64 - t = (63 - t) + 1 by omega, List.replicate_succ] at B2
          rw [List.append_assoc]
          exact B2
        have C2 := Lib.hid B2'
        clear B2 B2'
        obtain ⟨wo, rfl⟩ : ∃ wo : World, wo = wr := ⟨_, rfl⟩
        go_loopw [9] (fun i wr => ∃ j : Nat, j ≤ 4 ∧ i = .int .i64 j ∧ Below w.heap.size w wr ∧ Blk wr w.heap.size 56 (c32 r) ∧ Blk wr (w.heap.size + 1) 56 (c32 (List.replicate 8 0)) ∧ Blk wr (w.heap.size + 1 + 1) 91 (c32 (T.take t ++ [acc p t j] ++ List.replicate (63 - t) 0)) ∧ wr.heap.size = w.heap.size + 1 + 1 + 1) (fun i _ => 4 - (intOf i).toNat)
        case atStart => exact ⟨0, by omega, rfl, hbel, B0, B1, C2.out, HS.out⟩
        case round =>
          clear hbel B0 B1 C2 HS
          obtain ⟨j, hj4, rfl, hbel, B0, B1, B2, hsz⟩ := hrel
          have HS := Lib.hid hsz; clear hsz
          have htl : (T.take t).length = t := by rw [List.length_take, S64l.out]; omega
          by_cases hj : j < 4
          · obtain ⟨x, ex, lx, gx⟩ : ∃ x : Nat, x = p.getD (4 * t + j) 0 ∧ x < 256 ∧ wr.cell? ⟨b, o + (at_ + 4 * t + j), none⟩ = some (.int .u8 (x : Int)) := ⟨_, rfl, hpa.getD (by decide) _, by
              rw [Nat.add_assoc at_]; exact (hbel.cell (p := ⟨b, o + (at_ + (4 * t + j)), none⟩) hb).trans (HBP.out (4 * t + j) (by omega))⟩
            obtain ⟨y, ey, ly, gy⟩ : ∃ y : Nat, y = acc p t j ∧ y < 4294967296 ∧ wr.cell? ⟨w.heap.size + 1 + 1, t, none⟩ = some (.int .u32 (y : Int)) := ⟨_, rfl, acc_lt p t j, by
              have h := B2.w32 t (by rw [List.length_append, List.length_append, htl]; simp only [List.length_cons, List.length_nil]; omega)
              rw [List.getD_eq_getElem?_getD, List.append_assoc, List.getElem?_append_right (by omega), htl, Nat.sub_self] at h
              exact h⟩
            have fy := B2.frozen t
            have EX := Lib.hid ex; have EY := Lib.hid ey; have HT := Lib.hid htl
            clear ex ey htl
            have a0 : (0 : Int) ≤ (at_ : Int) + 4 * (t : Int) + (j : Int) := by omega
            have b0 : (at_ : Int) + 4 * (t : Int) + (j : Int) < (q.length : Int) := by omega
            have n0 : ((at_ : Int) + 4 * (t : Int) + (j : Int)).toNat = at_ + 4 * t + j := by omega
            have a1 : (0 : Int) ≤ (t : Int) := by omega
            have b1 : (t : Int) < 64 := by omega
            have m0 : IntKind.i64.wrap (4 * (t : Int)) = 4 * (t : Int) := IntWalk.i64_in _ (by omega)
            have m1 : IntKind.i64.wrap ((at_ : Int) + 4 * (t : Int)) = (at_ : Int) + 4 * (t : Int) := IntWalk.i64_in _ (by omega)
            have m2 : IntKind.i64.wrap ((at_ : Int) + 4 * (t : Int) + (j : Int)) = (at_ : Int) + 4 * (t : Int) + (j : Int) := IntWalk.i64_in _ (by omega)
            go_wp2
            go_still_tail 17, (by kernel_rfl)
            change wpList _ _ _ _ _ wr.drew
            go_wp2
            go_roundw
            case rel =>
              have e : ((y : Int) * 256 + (x : Int)) % 4294967296 = ((acc p t (j + 1) : Nat) : Int) := by
                rw [acc, ← EX.out, ← EY.out]; omega
              rw [e]
              refine ⟨j + 1, by omega, by go_num, (hbel.setCell (by show w.heap.size ≤ w.heap.size + 1 + 1; omega) _).drew, (B0.far (by show w.heap.size ≠ w.heap.size + 1 + 1; omega) _).drew, (B1.far (by show w.heap.size + 1 ≠ w.heap.size + 1 + 1; omega) _).drew, ?_, by simp [World.setCell, HS.out]⟩
              have h := (B2.set_ t (v32 (acc p t (j + 1)))).drew
              rw [c32_set _ _ _ _ _ HT.out] at h
              exact h
            case measure => simp [intOf]; omega
          · go_wp2
            go_roundw
            case rel =>
              refine ⟨t + 1, by omega, by go_num, hbel, B0, B1, ?_, HS.out⟩
              have h := B2
              rw [show j = 4 by omega, acc_four hpa, ← S64_low p t hlo, ← HT0.out] at h
              rw [show 64 - (t + 1) = 63 - t by omega, List.take_succ_eq_append_getElem (by rw [S64l.out]; omega), show T[t]'(by rw [S64l.out]; omega) = T.getD t 0 by rw [List.getD_eq_getElem?_getD, List.getElem?_eq_getElem (by rw [S64l.out]; omega)]; rfl]
              exact h
            case measure => simp [intOf]; omega)
      · (
        have cc : ∀ j, 1 ≤ j → j ≤ 16 → ∃ x : Nat, x = T.getD (t - j) 0 ∧ x < 4294967296 ∧ wr.cell? ⟨w.heap.size + 1 + 1, t - j, none⟩ = some (.int .u32 (x : Int)) := fun j hj1 hj2 => ⟨_, rfl, S64a.getD (by decide) _, by
          have h := B2.w32 (t - j) (by rw [List.length_append, List.length_take, S64l.out, List.length_replicate]; omega)
          rw [List.getD_eq_getElem?_getD, List.getElem?_append_left (by rw [List.length_take, S64l.out]; omega), ← List.getD_eq_getElem?_getD, getD_take _ _ _ (by omega)] at h
          exact h⟩
        obtain ⟨x, e0, l0, g0⟩ := cc 15 (by omega) (by omega)
        obtain ⟨y, e1, l1, g1⟩ := cc 2 (by omega) (by omega)
        obtain ⟨x16, e2, l2, g2⟩ := cc 16 (by omega) (by omega)
        obtain ⟨x7, e3, l3, g3⟩ := cc 7 (by omega) (by omega)
        have E0 := Lib.hid e0; have E1 := Lib.hid e1; have E2 := Lib.hid e2; have E3 := Lib.hid e3
        obtain ⟨z, gz⟩ : ∃ z, wr.cell? ⟨w.heap.size + 1 + 1, t, none⟩ = some z := ⟨_, B2.w32 t (by rw [List.length_append, List.length_take, S64l.out, List.length_replicate]; omega)⟩
        have f5 := B2.frozen t
        clear e0 e1 e2 e3 cc
        have t15 : ((t : Int) - 15).toNat = t - 15 := by omega
        have t2 : ((t : Int) - 2).toNat = t - 2 := by omega
        have t16 : ((t : Int) - 16).toNat = t - 16 := by omega
        have t7 : ((t : Int) - 7).toNat = t - 7 := by omega
        have a15 : (0 : Int) ≤ (t : Int) - 15 := by omega
        have a2 : (0 : Int) ≤ (t : Int) - 2 := by omega
        have a16 : (0 : Int) ≤ (t : Int) - 16 := by omega
        have a7 : (0 : Int) ≤ (t : Int) - 7 := by omega
        have an : (0 : Int) ≤ (t : Int) := by omega
        have b15 : (t : Int) - 15 < 64 := by omega
        have b2 : (t : Int) - 2 < 64 := by omega
        have b16 : (t : Int) - 16 < 64 := by omega
        have b7 : (t : Int) - 7 < 64 := by omega
        have bn : (t : Int) < 64 := by omega
        have q16 : (16 : Int) ≤ (t : Int) := by omega
        have q7 : (7 : Int) ≤ (t : Int) := by omega
        have m15 : IntKind.i64.wrap ((t : Int) - 15) = (t : Int) - 15 := IntWalk.i64_in _ (by omega)
        have m2 : IntKind.i64.wrap ((t : Int) - 2) = (t : Int) - 2 := IntWalk.i64_in _ (by omega)
        have m16 : IntKind.i64.wrap ((t : Int) - 16) = (t : Int) - 16 := IntWalk.i64_in _ (by omega)
        have m7 : IntKind.i64.wrap ((t : Int) - 7) = (t : Int) - 7 := IntWalk.i64_in _ (by omega)
        have d1 : decide ((t : Int) < 64) = true := decide_eq_true (by omega)
        have d2 : decide ((t : Int) < 16) = false := decide_eq_false (by omega)
        go_wp2_with (first
          | (go_at_call 66; (with_reducible refine (rround_7 x _ l0).mono ?_); rintro e w' ⟨rfl, rfl⟩)
          | (go_at_call 66; (with_reducible refine (rround_18 x _ l0).mono ?_); rintro e w' ⟨rfl, rfl⟩)
          | (go_at_call 66; (with_reducible refine (rround_17 y _ l1).mono ?_); rintro e w' ⟨rfl, rfl⟩)
          | (go_at_call 66; (with_reducible refine (rround_19 y _ l1).mono ?_); rintro e w' ⟨rfl, rfl⟩))
        go_still_tail 15, (by kernel_rfl)
        change wpList _ _ _ _ _ wr.drew
        go_wp2
        go_roundw
        case rel =>
          rw [sg0_int x l0, sg1_int y l1]
          have e : ((x16 : Int) + ((sg0 x : Nat) : Int) + (x7 : Int) + ((sg1 y : Nat) : Int)) % 4294967296 = ((T.getD t 0 : Nat) : Int) := by
            rw [HT0.out, S64_high p t (by omega) hlt, ← HT0.out, ← E0.out, ← E1.out, ← E2.out, ← E3.out]
            omega
          rw [e]
          refine ⟨t + 1, by omega, by go_num, (hbel.setCell (by show w.heap.size ≤ w.heap.size + 1 + 1; omega) _).drew, (B0.far (by show w.heap.size ≠ w.heap.size + 1 + 1; omega) _).drew, (B1.far (by show w.heap.size + 1 ≠ w.heap.size + 1 + 1; omega) _).drew, ?_, by simp [World.setCell, HS.out]⟩
          have h := (B2.set_ t (v32 (T.getD t 0))).drew
          rw [show 64 - t = (64 - (t + 1)) + 1 by omega, c32_push _ _ _ _ (by rw [List.length_take, S64l.out]; omega)] at h
          rw [List.take_succ_eq_append_getElem (by rw [S64l.out]; omega), show T[t]'(by rw [S64l.out]; omega) = T.getD t 0 by rw [List.getD_eq_getElem?_getD, List.getElem?_eq_getElem (by rw [S64l.out]; omega)]; rfl]
          exact h
        case measure => simp [intOf]; omega)
    · have C2 : Hid (Blk wr (w.heap.size + 1 + 1) 91 (c32 T)) := by
        have h := B2
        rw [show 64 - t = 0 by omega, List.replicate_zero, List.append_nil, List.take_of_length_le (by rw [S64l.out]; omega)] at h
        exact h
      clear B2
      have d1 : decide ((t : Int) < 64) = false := decide_eq_false (by omega)
      have nz : ∀ i, i < 8 → ∃ x : Nat, x = r.getD i 0 ∧ x < 4294967296 ∧ wr.cell? ⟨w.heap.size, i, none⟩ = some (.int .u32 (x : Int)) := fun i hi => ⟨_, rfl, hra.getD (by decide) i, B0.w32 i (by rw [HR.out]; omega)⟩
      obtain ⟨y0, ey0, ly0, z0⟩ := nz 0 (by omega)
      obtain ⟨y1, ey1, ly1, z1⟩ := nz 1 (by omega)
      obtain ⟨y2, ey2, ly2, z2⟩ := nz 2 (by omega)
      obtain ⟨y3, ey3, ly3, z3⟩ := nz 3 (by omega)
      obtain ⟨y4, ey4, ly4, z4⟩ := nz 4 (by omega)
      obtain ⟨y5, ey5, ly5, z5⟩ := nz 5 (by omega)
      obtain ⟨y6, ey6, ly6, z6⟩ := nz 6 (by omega)
      obtain ⟨y7, ey7, ly7, z7⟩ := nz 7 (by omega)
      clear nz
      have EY0 := Lib.hid ey0; clear ey0
      have EY1 := Lib.hid ey1; clear ey1
      have EY2 := Lib.hid ey2; clear ey2
      have EY3 := Lib.hid ey3; clear ey3
      have EY4 := Lib.hid ey4; clear ey4
      have EY5 := Lib.hid ey5; clear ey5
      have EY6 := Lib.hid ey6; clear ey6
      have EY7 := Lib.hid ey7; clear ey7
      go_wp2
      have B3 : Blk (wr.alloc (.cells #[.int .u32 y0, .int .u32 y1, .int .u32 y2, .int .u32 y3, .int .u32 y4, .int .u32 y5, .int .u32 y6, .int .u32 y7] 56)) (w.heap.size + 1 + 1 + 1) 56 (c32 r) := by
        have h := Blk.new_ wr 56 (c32 r) _ HS.out
        have e : c32 r = #[.int .u32 y0, .int .u32 y1, .int .u32 y2, .int .u32 y3, .int .u32 y4, .int .u32 y5, .int .u32 y6, .int .u32 y7] := by
          rw [EY0.out, EY1.out, EY2.out, EY3.out, EY4.out, EY5.out, EY6.out, EY7.out]
          exact c32_eight r HR.out
        rw [← e]
        exact h
      have hbel' := hbel.alloc (by rw [HS.out]; omega) (.cells #[.int .u32 y0, .int .u32 y1, .int .u32 y2, .int .u32 y3, .int .u32 y4, .int .u32 y5, .int .u32 y6, .int .u32 y7] 56)
      have B0' := B0.alloc (.cells #[.int .u32 y0, .int .u32 y1, .int .u32 y2, .int .u32 y3, .int .u32 y4, .int .u32 y5, .int .u32 y6, .int .u32 y7] 56)
      have B1' := B1.alloc (.cells #[.int .u32 y0, .int .u32 y1, .int .u32 y2, .int .u32 y3, .int .u32 y4, .int .u32 y5, .int .u32 y6, .int .u32 y7] 56)
      have C2' := Lib.hid (C2.out.alloc (.cells #[.int .u32 y0, .int .u32 y1, .int .u32 y2, .int .u32 y3, .int .u32 y4, .int .u32 y5, .int .u32 y6, .int .u32 y7] 56))
      rw [HS.out]
      clear z0 z1 z2 z3 z4 z5 z6 z7 hbel B0 B1 C2
      generalize (wr.alloc (.cells #[.int .u32 y0, .int .u32 y1, .int .u32 y2, .int .u32 y3, .int .u32 y4, .int .u32 y5, .int .u32 y6, .int .u32 y7] 56)) = wo at *
      go_loopw [15] (fun i wr => ∃ m : Nat, m ≤ 64 ∧ i = .int .i64 m ∧ (∃ R : List Nat, R = regs r T m ∧ Blk wr (w.heap.size + 1 + 1 + 1) 56 (c32 R)) ∧ Below w.heap.size w wr ∧ Blk wr w.heap.size 56 (c32 r) ∧ Blk wr (w.heap.size + 1) 56 (c32 (List.replicate 8 0)) ∧ Blk wr (w.heap.size + 1 + 1) 91 (c32 T)) (fun i _ => 64 - (intOf i).toNat)
      case atStart => exact ⟨0, by omega, rfl, ⟨r, rfl, B3⟩, hbel', B0', B1', C2'.out⟩
      case round =>
        clear hbel' B0' B1' C2' B3
        obtain ⟨m, hm, rfl, ⟨R, hR, B3⟩, hbel, B0, B1, B2⟩ := hrel
        have hRa : All 4294967296 R := hR ▸ regs_all hra m
        have hRl : R.length = 8 := hR ▸ regs_len HR.out m
        have nm : ∀ i, i < 8 → ∃ x : Nat, x = R.getD i 0 ∧ x < 4294967296 ∧ wr.cell? ⟨w.heap.size + 1 + 1 + 1, i, none⟩ = some (.int .u32 (x : Int)) := fun i hi => ⟨_, rfl, hRa.getD (by decide) i, B3.w32 i (by omega)⟩
        have HRR := Lib.hid hR
        have HRL := Lib.hid hRl
        obtain ⟨A, eA, lA, g0⟩ := nm 0 (by omega)
        obtain ⟨B, eB, lB, g1⟩ := nm 1 (by omega)
        obtain ⟨C, eC, lC, g2⟩ := nm 2 (by omega)
        obtain ⟨D, eD, lD, g3⟩ := nm 3 (by omega)
        obtain ⟨E, eE, lE, g4⟩ := nm 4 (by omega)
        obtain ⟨F, eF, lF, g5⟩ := nm 5 (by omega)
        obtain ⟨G, eG, lG, g6⟩ := nm 6 (by omega)
        obtain ⟨K, eK, lK, g7⟩ := nm 7 (by omega)
        have EA := Lib.hid eA; have EB := Lib.hid eB; have EC := Lib.hid eC; have ED := Lib.hid eD; have EE := Lib.hid eE; have EF := Lib.hid eF; have EG := Lib.hid eG; have EK := Lib.hid eK
        clear nm eA eB eC eD eE eF eG eK hR hRl
        by_cases hlt3 : m < 64
        · (
          have f0 := B3.frozen 0; have f1 := B3.frozen 1; have f2 := B3.frozen 2; have f3 := B3.frozen 3
          have f4 := B3.frozen 4; have f5 := B3.frozen 5; have f6 := B3.frozen 6; have f7 := B3.frozen 7
          obtain ⟨kt, ekt⟩ : ∃ x : Nat, x = roots.getD m 0 := ⟨_, rfl⟩
          obtain ⟨ww, eww⟩ : ∃ x : Nat, x = T.getD m 0 := ⟨_, rfl⟩
          have lk : kt < 4294967296 := ekt ▸ roots_all.getD (by decide) m
          have lw : ww < 4294967296 := eww ▸ S64a.getD (by decide) m
          have gk : wr.cell? ⟨2, m, none⟩ = some (.int .u32 (kt : Int)) := by rw [hbel.cell (p := ⟨2, m, none⟩) h2, ht m hlt3, ekt]; rfl
          have gw : wr.cell? ⟨w.heap.size + 1 + 1, m, none⟩ = some (.int .u32 (ww : Int)) := by rw [B2.w32 m (by rw [S64l.out]; omega), eww]
          have EK' := Lib.hid ekt; have EW := Lib.hid eww
          clear ekt eww
          have am : (0 : Int) ≤ (m : Int) := by omega
          have bm : (m : Int) < 64 := by omega
          have dm : decide ((m : Int) < 64) = true := decide_eq_true bm
          go_wp2
          go_quiet (fail)
          go_wp2
          go_quiet (first
            | (go_at_call 66; with_reducible exact quiet_left (rround_6 E _ lE))
            | (go_at_call 66; with_reducible exact quiet_left (rround_11 E _ lE))
            | (go_at_call 66; with_reducible exact quiet_left (rround_25 E _ lE))
            | (go_at_call 66; with_reducible exact quiet_add_left (rround_6 E _ lE))
            | (go_at_call 66; with_reducible exact quiet_add_left (rround_11 E _ lE))
            | (go_at_call 66; with_reducible exact quiet_add_left (rround_25 E _ lE)))
          go_wp2_with (first
            | (go_at_call 66; (with_reducible refine (rround_2 A _ lA).mono ?_); rintro e w' ⟨rfl, rfl⟩)
            | (go_at_call 66; (with_reducible refine (rround_13 A _ lA).mono ?_); rintro e w' ⟨rfl, rfl⟩)
            | (go_at_call 66; (with_reducible refine (rround_22 A _ lA).mono ?_); rintro e w' ⟨rfl, rfl⟩))
          go_roundw
          case rel =>
            rw [bg1_int E lE, cho_int' E F G lE lF lG, bg0_int A lA, maj_int A B C lA lB lC]
            have e0 : ((K : Int) + ((bg1 E : Nat) : Int) + ((cho E F G : Nat) : Int) + (kt : Int) + (ww : Int) + (((bg0 A : Nat) : Int) + ((maj A B C : Nat) : Int))) % 4294967296 = ((((stepU R (roots.getD m 0) (T.getD m 0) + stepV R) % 4294967296 : Nat)) : Int) := by
              unfold stepU stepV
              rw [← EA.out, ← EB.out, ← EC.out, ← EE.out, ← EF.out, ← EG.out, ← EK.out, ← EK'.out, ← EW.out]
              omega
            have e4 : ((D : Int) + ((K : Int) + ((bg1 E : Nat) : Int) + ((cho E F G : Nat) : Int) + (kt : Int) + (ww : Int))) % 4294967296 = (((R.getD 3 0 + stepU R (roots.getD m 0) (T.getD m 0)) % 4294967296 : Nat) : Int) := by
              unfold stepU
              rw [← ED.out, ← EE.out, ← EF.out, ← EG.out, ← EK.out, ← EK'.out, ← EW.out]
              omega
            rw [e0, e4]
            refine ⟨m + 1, by omega, by go_num, ⟨stepR R (roots.getD m 0) (T.getD m 0), by rw [HRR.out]; rfl, ?_⟩, below_eight (below_drewN hbel _) (by omega) _ _ _ _ _ _ _ _, (B0.drewN _).far_eight (by omega) _ _ _ _ _ _ _ _, (B1.drewN _).far_eight (by omega) _ _ _ _ _ _ _ _, (B2.drewN _).far_eight (by omega) _ _ _ _ _ _ _ _⟩
            rw [EA.out, EB.out, EC.out, EE.out, EF.out, EG.out]
            exact (B3.drewN _).eight (by simp [c32, HRL.out]) _ _ _ _ _ _ _ _
          case measure => simp [intOf]; omega)
        · have HRF : Hid (R = regs r T 64) := by rw [HRR.out, show m = 64 by omega]; exact rfl
          have hge3 : 64 ≤ m := by omega
          clear g0 g1 g2 g3 g4 g5 g6 g7 HRR EA EB EC ED EE EF EG EK lA lB lC lD lE lF lG lK A B C D E F G K B2 hlt3
          have hHL : Hid ((addR r R).length = 8) := addR_len r R
          obtain ⟨L, hL⟩ : ∃ L, L = addR r R := ⟨_, rfl⟩
          rw [← hL] at hHL
          have HL := Lib.hid hL
          clear hL
          go_wp2
          obtain ⟨wo3, rfl⟩ : ∃ wo3 : World, wo3 = wr := ⟨_, rfl⟩
          go_loopw [22] (fun i wr => ∃ k : Nat, k ≤ 8 ∧ i = .int .i64 k ∧ Blk wr (w.heap.size + 1 + 1 + 1) 56 (c32 (L.take k ++ R.drop k)) ∧ Below w.heap.size w wr ∧ Blk wr w.heap.size 56 (c32 r) ∧ Blk wr (w.heap.size + 1) 56 (c32 (List.replicate 8 0))) (fun i _ => 8 - (intOf i).toNat)
          case atStart => exact ⟨0, by omega, rfl, B3, hbel, B0, B1⟩
          case round =>
            clear hbel B0 B1 B3
            obtain ⟨k, hk, rfl, B3, hbel, B0, B1⟩ := hrel
            by_cases hlt4 : k < 8
            · (
              obtain ⟨x, ex, lx, gx⟩ : ∃ x : Nat, x = R.getD k 0 ∧ x < 4294967296 ∧ wr.cell? ⟨w.heap.size + 1 + 1 + 1, k, none⟩ = some (.int .u32 (x : Int)) := ⟨_, rfl, hRa.getD (by decide) _, by
                have h := B3.w32 k (by rw [List.length_append, List.length_take, List.length_drop, hHL.out, HRL.out]; omega)
                rw [List.getD_eq_getElem?_getD, List.getElem?_append_right (by rw [List.length_take, hHL.out]; omega), List.length_take, hHL.out, List.getElem?_drop, show k + (k - min k 8) = k by omega, ← List.getD_eq_getElem?_getD] at h
                exact h⟩
              obtain ⟨y, ey, ly, gy⟩ : ∃ y : Nat, y = r.getD k 0 ∧ y < 4294967296 ∧ wr.cell? ⟨w.heap.size, k, none⟩ = some (.int .u32 (y : Int)) := ⟨_, rfl, hra.getD (by decide) _, B0.w32 k (by rw [HR.out]; omega)⟩
              have EX := Lib.hid ex; have EY := Lib.hid ey
              clear ex ey
              have fx := B3.frozen k
              have ak : (0 : Int) ≤ (k : Int) := by omega
              have bk : (k : Int) < 8 := by omega
              have dk : decide ((k : Int) < 8) = true := decide_eq_true bk
              go_wp2
              go_still_tail 9, (by kernel_rfl)
              change wpList _ _ _ _ _ wr.drew
              go_wp2
              go_roundw
              case rel =>
                have e : ((x : Int) + (y : Int)) % 4294967296 = ((L.getD k 0 : Nat) : Int) := by
                  rw [HL.out, show (addR r R).getD k 0 = (r.getD k 0 + R.getD k 0) % 4294967296 by simp [addR, List.getD_eq_getElem?_getD, hlt4], ← EX.out, ← EY.out]
                  omega
                rw [e]
                refine ⟨k + 1, by omega, by go_num, ?_, (hbel.setCell (by show w.heap.size ≤ w.heap.size + 1 + 1 + 1; omega) _).drew, (B0.far (by show w.heap.size ≠ w.heap.size + 1 + 1 + 1; omega) _).drew, (B1.far (by show w.heap.size + 1 ≠ w.heap.size + 1 + 1 + 1; omega) _).drew⟩
                have h := (B3.set_ k (v32 (L.getD k 0))).drew
                rw [add_take L R k (by rw [hHL.out]; omega) (by rw [hHL.out, HRL.out])] at h
                exact h
              case measure => simp [intOf]; omega)
            · have hge4 : 8 ≤ k := by omega
              have B3' : Blk wr (w.heap.size + 1 + 1 + 1) 56 (c32 L) := by
                have h := B3
                rw [List.take_of_length_le (by rw [hHL.out]; omega), List.drop_eq_nil_of_le (by rw [HRL.out]; omega), List.append_nil] at h
                exact h
              clear B3
              have nx : ∀ i, i < 8 → ∃ v : Value, v = .int .u32 (L.getD i 0 : Nat) ∧ wr.cell? ⟨w.heap.size + 1 + 1 + 1, i, none⟩ = some v ∧ v.oneCell' = true := fun i hi => ⟨_, rfl, B3'.w32 i (by rw [hHL.out]; omega), rfl⟩
              have q : ∀ i, i < 8 → wr.cell? ⟨w.heap.size + 1, i, none⟩ = some (.int .u32 0) := fun j hj => by
                rw [B1.w32 j (by rw [List.length_replicate]; omega), List.getD_eq_getElem?_getD, List.getElem?_replicate, if_pos hj]
                rfl
              have q0 := q 0 (by omega); have q1 := q 1 (by omega); have q2 := q 2 (by omega); have q3 := q 3 (by omega)
              have q4 := q 4 (by omega); have q5 := q 5 (by omega); have q6 := q 6 (by omega); have q7 := q 7 (by omega)
              have s0 := B1.frozen 0; have s1 := B1.frozen 1; have s2 := B1.frozen 2; have s3 := B1.frozen 3
              have s4 := B1.frozen 4; have s5 := B1.frozen 5; have s6 := B1.frozen 6; have s7 := B1.frozen 7
              clear q
              have ny : ∀ i, i < 8 → ∃ x : Nat, x = L.getD i 0 ∧ wr.cell? ⟨w.heap.size + 1 + 1 + 1, i, none⟩ = some (.int .u32 (x : Int)) := fun i hi => ⟨_, rfl, B3'.w32 i (by rw [hHL.out]; omega)⟩
              clear nx
              obtain ⟨u0_, k0, c0⟩ := ny 0 (by omega)
              obtain ⟨u1_, k1, c1⟩ := ny 1 (by omega)
              obtain ⟨u2_, k2, c2⟩ := ny 2 (by omega)
              obtain ⟨u3_, k3, c3⟩ := ny 3 (by omega)
              obtain ⟨u4_, k4, c4⟩ := ny 4 (by omega)
              obtain ⟨u5_, k5, c5⟩ := ny 5 (by omega)
              obtain ⟨u6_, k6, c6⟩ := ny 6 (by omega)
              obtain ⟨u7_, k7, c7⟩ := ny 7 (by omega)
              clear ny
              have K0 := Lib.hid k0; have K1 := Lib.hid k1; have K2 := Lib.hid k2; have K3 := Lib.hid k3
              have K4 := Lib.hid k4; have K5 := Lib.hid k5; have K6 := Lib.hid k6; have K7 := Lib.hid k7
              clear k0 k1 k2 k3 k4 k5 k6 k7
              go_wp2
              have hB := B1.eight (by rfl) (.int .u32 (u0_ : Int)) (.int .u32 (u1_ : Int)) (.int .u32 (u2_ : Int)) (.int .u32 (u3_ : Int)) (.int .u32 (u4_ : Int)) (.int .u32 (u5_ : Int)) (.int .u32 (u6_ : Int)) (.int .u32 (u7_ : Int))
              have hBel := below_eight hbel (g := w.heap.size + 1) (by omega) (.int .u32 (u0_ : Int)) (.int .u32 (u1_ : Int)) (.int .u32 (u2_ : Int)) (.int .u32 (u3_ : Int)) (.int .u32 (u4_ : Int)) (.int .u32 (u5_ : Int)) (.int .u32 (u6_ : Int)) (.int .u32 (u7_ : Int))
              have e : turn r p = L := by
                rw [HL.out, HRF.out, HT0.out]; rfl
              have eL := c32_eight L hHL.out
              rw [← K0.out, ← K1.out, ← K2.out, ← K3.out, ← K4.out, ← K5.out, ← K6.out, ← K7.out] at eL
              rw [e, eL]
              exact bodyPost_ret (results_cell_row rfl _ _ (w.heap.size + 1) 56 _ (0, 0) _ rfl hB Tryd.underlying56 rfl (by kernel_rfl)) rfl ⟨rfl, hBel⟩
end Go.Proofs.YtfedlgcpgfofjaaDoor.Sha
