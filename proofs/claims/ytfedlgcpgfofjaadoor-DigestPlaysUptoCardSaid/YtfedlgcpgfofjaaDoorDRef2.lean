/-
  The reference's Save: what the call does, walked.
-/
import Derived.Test.YtfedlgcpgfofjaaDoorDRef1
namespace Go.Proofs.YtfedlgcpgfofjaaDoor.Sha
open Go.RowKit Go.Proofs.YtfedlgcpgfofjaaDoorW.PrintWords Go.Proofs.YtfedlgcpgfofjaaDoor.PAll Go.Proofs.YtfedlgcpgfofjaaDoor.Plain
set_option linter.unusedVariables false
theorem C8.midR {w : World} {A : Option Addr} {n c : Nat} {p : List Nat} (h : C8 w A n p) (lo hi : Nat) (h1 : lo ≤ hi) (h2 : hi ≤ n) (h3 : n ≤ c) :
    C8 w (if c = lo then A else A.map (·.add lo)) (hi - lo) ((p.take hi).drop lo) := by
  have hn := h.len
  have hl : ((p.take hi).drop lo).length = hi - lo := by rw [List.length_drop, List.length_take]; omega
  by_cases h0 : hi - lo = 0
  · have e : (p.take hi).drop lo = [] := List.eq_nil_of_length_eq_zero (by omega)
    rw [e, h0]
    exact C8.nil _ _
  · obtain ⟨b, o, rfl, hlt, hbs⟩ := h.at_ (by omega)
    rw [if_neg (by omega)]
    have hb : Bs w b (o + lo) ((p.take hi).drop lo) := fun j hj => by
      rw [hl] at hj
      have := hbs (lo + j) (by omega)
      rw [show o + (lo + j) = o + lo + j by omega] at this
      rw [this, List.getD_eq_getElem?_getD, List.getD_eq_getElem?_getD, List.getElem?_drop, List.getElem?_take_of_lt (by omega)]
    have h9 := h.2.1
    have h := C8.of_Bs hb (by omega)
    rw [hl] at h
    simpa [Addr.add_mid] using h
set_option maxRecDepth 100000 in
set_option maxHeartbeats 1000000 in
theorem rsave_any (r all : List Nat) (past n c : Nat) (A : Option Addr) (w : World) (hr : r.length = 8) (hra : All 4294967296 r) (hall : All 256 all) (hn : n = all.length) (hnc : n ≤ c) (hmax : n ≤ 100000000000000) (hpast : past ≤ 1152921504606846976)
    (hC : C8 w A all.length all) (ht : Tab2 w) (h2 : 2 < w.heap.size) :
    Calls Tryd.prog 58 #[.agg (rh r past (.slice A n c)).toArray] w fun e w' => ∃ v, e = .returned v ∧ Own w' w.heap.size v (saveOf r past all) ∧ Below w.heap.size w w' := by
  have gv : (rh r past (.slice A n c))[9]? = some (.slice A n c) := by simp [rh, hr]
  obtain ⟨m, hm⟩ : ∃ m, m = n % 64 := ⟨_, rfl⟩
  have hm64 : m < 64 := by omega
  have hmn : m ≤ n := by omega
  obtain ⟨T, hT⟩ : ∃ T, T = tailOf all := ⟨_, rfl⟩
  have hTl : T.length = m := by rw [hT, tailOf_len, hm, hn]
  have hTe : (all.take n).drop (n - m) = T := by
    rw [hT, List.take_of_length_le (by omega)]
    unfold tailOf
    rw [show n - m = 64 * (all.length / 64) by omega]
  have hCn : C8 w A n all := by rw [hn]; exact hC
  have hCT : C8 w (if c = n - m then A else A.map (·.add (n - m))) T.length T := by
    have h := hCn.midR (c := c) (n - m) n (by omega) (Nat.le_refl _) hnc
    rw [hTe, show n - (n - m) = T.length by omega] at h
    exact h
  obtain ⟨N, hN⟩ : ∃ N, N = past + n := ⟨_, rfl⟩
  have h8 : ∀ W : World, Calls Tryd.prog 55 #[.int .u64 ((past : Int) + (n : Int))] W fun e w' => ∃ v, e = .returned v ∧ Own w' W.heap.size v (eight N) ∧ Below W.heap.size W w' := fun W => by
    have h := reight_any N W
    rw [hN] at h ⊢
    rw [show ((past + n : Nat) : Int) = (past : Int) + (n : Int) by omega] at h
    exact h
  obtain ⟨E, hE⟩ : ∃ E, E = eight N := ⟨_, rfl⟩
  have hEl : E.length = 8 := by rw [hE]; exact eight_len N
  rw [← hE] at h8
  obtain ⟨R, hR⟩ : ∃ R, R = regOf r all := ⟨_, rfl⟩
  have hRl : R.length = 8 := by rw [hR]; exact regOf_len hr all
  have hRa : All 4294967296 R := by rw [hR]; exact regOf_all hra all
  obtain ⟨S, hS⟩ : ∃ S, S = bytesR R := ⟨_, rfl⟩
  have hSl : S.length = 32 := by rw [hS, bytesR_len, hRl]
  have hans : saveOf r past all = S ++ (T ++ List.replicate (64 - m) 0) ++ E := by rw [hS, hT, hE, hR, hN, hm, hn]; rfl
  have hblocks : ∀ W : World, Below w.heap.size w W → Calls Tryd.prog 61 #[.agg (r.map v32).toArray, .slice A n c] W fun e w' => e = .returned (.agg (R.map v32).toArray) ∧ Below W.heap.size W w' := fun W hb => by
    rw [hR, hn]
    exact rblocks_any r all A c W hr hra (by omega) hall (hC.below hb) (ht.below hb h2) (Nat.lt_of_lt_of_le h2 hb.size)
  have hwords : ∀ W : World, Calls Tryd.prog 60 #[.agg (R.map v32).toArray] W fun e w' => ∃ v, e = .returned v ∧ Own w' W.heap.size v S ∧ Below W.heap.size W w' := fun W => by
    rw [hS]; exact rwords_any R W hRl hRa
  have HR := Lib.hid hr; have HTL := Lib.hid hTl; have HCT := Lib.hid hCT; have H8 := Lib.hid h8; have HEL := Lib.hid hEl; have HSL := Lib.hid hSl; have HANS := Lib.hid hans; have HB := Lib.hid hblocks; have HW := Lib.hid hwords; have HM := Lib.hid hm
  clear hr hTl hCT h8 hEl hSl hans hblocks hwords hT hTe hCn hN hE hR hRl hRa hS hra hall hC ht hn
  have k0 : (0 : Int) ≤ (n : Int) := by omega
  have k1 : (n : Int) ≤ 100000000000000 := by omega
  have k2 : (0 : Int) ≤ (past : Int) := by omega
  have k3 : (past : Int) ≤ 1152921504606846976 := by omega
  have k4 : (n : Int) % 64 = (m : Int) := by omega
  have j0 : Int.tmod (n : Int) 64 = (m : Int) := by rw [Int.tmod_eq_emod_of_nonneg k0]; exact k4
  have k5 : (0 : Int) ≤ (m : Int) := by omega
  have k6 : (m : Int) ≤ (n : Int) := by omega
  have k7 : (0 : Int) ≤ (n : Int) - (m : Int) := by omega
  have k8 : (n : Int) - (m : Int) ≤ (n : Int) := by omega
  have k9 : ((n : Int) - (m : Int)).toNat = n - m := by omega
  clear hm
  go_enter Tryd.func58, Tryd.ntmps58
  go_wp2_with (first
    | (refine wpl_load rfl 56 _ rfl w.heap.size 0 rfl 58 [] (r.map v32) [Value.int .u64 (past : Int), Value.slice A n c] (Blk.new w 58 (rh r past (.slice A n c)).toArray) rfl _ Tryd.underlying56 rfl (by rw [List.length_map, HR.out]; kernel_rfl) ?_)
    | (go_at_call 61; (with_reducible refine (HB.out _ ((Below.refl _ _).alloc (Nat.le_refl _) _)).mono ?_); rintro e w1 ⟨rfl, hb1⟩
       have hb1' : Below w.heap.size w w1 := ((Below.refl _ _).alloc (Nat.le_refl _) _).trans (hb1.mono (by simp))
       have B1 : Blk w1 w.heap.size 58 (rh r past (.slice A n c)).toArray := (Blk.new w 58 _).below hb1 (by simp)
       have s1 := hb1'.size
       clear hb1)
    | (go_at_call 60; (with_reducible refine (HW.out _).mono ?_); rintro e w2 ⟨v2, rfl, O2, hb2⟩
       have hb2' : Below w.heap.size w w2 := hb1'.trans (hb2.mono s1)
       have B2 := B1.below hb2 B1.lt
       have O2' : Own w2 w.heap.size v2 S := own_weaken O2 s1
       have g9 := rh_cell9 HR.out B2
       have s2 := hb2'.size
       obtain ⟨A2, n2, c2, hn2, hv2, hC2⟩ := O2'.arg_
       subst hv2
       have HB2 := Lib.hid B2
       clear hb1' B1 hb2 O2 B2 hn2 hC2)
    | (at_builtin; go_loud (refine wpl_append rfl _ _ _ rfl info_byte Tryd.underlying22 w.heap.size _ S rfl O2' _ _ _ T rfl (by rw [HTL.out]; omega) (HCT.out.below hb2') (by rw [HSL.out, HTL.out]; omega) s2 ?_)
       intro v3 w3 O3 G3 _
       have hb3 := hb2'.grown G3 s2 (fun k hk => (O2'.lt k hk).1)
       have B3 := HB2.out.grown G3 (O2'.ne HB2.out (by decide))
       clear G3 O2' hb2' HB2 g9))
  all_goals
    clear h
    have s3 := hb3.size
    have hlen : ∀ z, (S ++ T ++ List.replicate z 0).length = 32 + m + z := fun z => by rw [List.length_append, List.length_append, HSL.out, HTL.out, List.length_replicate]
    have HLEN := Lib.hid hlen
    clear hlen
    go_loopw [3, 5] (fun v i wr => ∃ k : Nat, m ≤ k ∧ k ≤ 64 ∧ i = .int .i64 (k : Int) ∧ Own wr w.heap.size v (S ++ T ++ List.replicate (k - m) 0) ∧ Below w.heap.size w wr ∧ Blk wr w.heap.size 58 (rh r past (.slice A n c)).toArray) (fun _ i _ => 64 - (intOf i).toNat)
    case atStart => exact ⟨m, Nat.le_refl _, by omega, rfl, by rw [Nat.sub_self, List.replicate_zero, List.append_nil]; exact O3, hb3, B3⟩
    case round =>
      clear O3 hb3 B3 s3
      obtain ⟨k, hk1, hk2, rfl, O, hb, B⟩ := hrel
      have hs := hb.size
      by_cases hlt : k < 64
      · have dk : decide ((k : Int) < 64) = true := decide_eq_true (by omega)
        have dk1 : (k : Int) < 64 := by omega
        have HO := Lib.hid O; have HBB := Lib.hid B
        clear O B
        go_wp2_with (at_builtin; refine wpl_append rfl _ _ _ rfl info_byte Tryd.underlying22 w.heap.size u3 _ rfl (HO.out.alloc _) _ _ _ [0] rfl rfl (C8.one_ _ 0 0 rfl _ rfl) (by rw [HLEN.out]; simp; omega) (by simp; omega) ?_; intro v4 w4 O4 G4 _)
        go_roundw
        case rel =>
          refine ⟨k + 1, by omega, by omega, by go_num, ?_, (hb.alloc hs _).grown G4 (by simp; omega) (fun k hk => (HO.out.lt k hk).1), (HBB.out.alloc _).grown G4 (HO.out.ne HBB.out (by decide))⟩
          rw [show k + 1 - m = (k - m) + 1 by omega, List.replicate_succ', ← List.append_assoc]
          exact O4
        case measure => simp [intOf]; omega
      · have dk : decide ((k : Int) < 64) = false := decide_eq_false (by omega)
        have dk1 : ¬ (k : Int) < 64 := by omega
        have ek : k = 64 := by omega
        subst ek
        have g8 := rh_cell8 HR.out B
        have g9 := rh_cell9 HR.out B
        have HO := Lib.hid O
        clear O B
        go_wp2_with (first
          | (go_at_call 55; (with_reducible refine (H8.out _).mono ?_); rintro e w5 ⟨v5, rfl, O5, hb5⟩; obtain ⟨A5, n5, c5, hn5, rfl, hC5⟩ := O5.arg_; have HN5 := Lib.hid hn5; clear hn5)
          | (at_builtin; refine wpl_append rfl _ _ _ rfl info_byte Tryd.underlying22 w.heap.size _ _ rfl (HO.out.below hb5) _ _ _ E rfl HN5.out hC5 (by rw [HLEN.out, HEL.out]; omega) (by have := hb5.size; omega) ?_; intro v6 w6 O6 G6 _
             have hb6 := (hb.trans (hb5.mono hs)).grown G6 (by have := hb5.size; omega) (fun k hk => (HO.out.lt k hk).1)))
        go_ret
        refine ⟨_, rfl, ?_, hb6⟩
        rw [HANS.out, ← List.append_assoc S T]
        exact O6
end Go.Proofs.YtfedlgcpgfofjaaDoor.Sha
