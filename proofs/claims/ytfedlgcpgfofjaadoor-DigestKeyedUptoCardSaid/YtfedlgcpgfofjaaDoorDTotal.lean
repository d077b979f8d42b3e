/-
  eight (both), and the reference's Total and Sum: what the calls do.
-/
import Derived.Test.YtfedlgcpgfofjaaDoorDWords
import Derived.Test.YtfedlgcpgfofjaaDoorPAllx2
namespace Go.Proofs.YtfedlgcpgfofjaaDoor.Sha
open Go.RowKit Go.Proofs.YtfedlgcpgfofjaaDoorW.PrintWords Go.Proofs.YtfedlgcpgfofjaaDoor.PAll
set_option linter.unusedVariables false
theorem eight_at (n i : Nat) (h : i < 8) : (eight n)[i]? = some (n / 2 ^ (8 * (7 - i)) % 256) := by
  simp [eight, h]
theorem eight_len (n : Nat) : (eight n).length = 8 := by simp [eight]
theorem eight_all (n : Nat) : All 256 (eight n) := by
  intro x hx
  obtain ⟨i, _, rfl⟩ := List.mem_map.1 hx
  exact Nat.mod_lt _ (by decide)
theorem c8_push (l : List Nat) (m i x : Nat) (hi : l.length = i) : (c8 (l ++ List.replicate (m + 1) 0)).setIfInBounds i (v8 x) = c8 (l ++ [x] ++ List.replicate m 0) := by
  subst hi
  unfold c8
  rw [set_list, List.replicate_succ, List.set_append_right _ _ (Nat.le_refl _), Nat.sub_self, List.set_cons_zero, List.append_assoc]
  rfl
set_option maxRecDepth 100000 in
set_option maxHeartbeats 400000 in
theorem eight_any (n : Nat) (w : World) (hn : n < 18446744073709551616) :
    Calls Tryd.prog 48 #[.int .u64 (n : Int)] w fun e w' => ∃ v, e = .returned v ∧ Own w' w.heap.size v (eight n) ∧ Below w.heap.size w w' := by
  have h0 : (0 : Int) ≤ (n : Int) := by omega
  have h1 : (n : Int) < 18446744073709551616 := by omega
  obtain ⟨E, hE⟩ : ∃ E, E = eight n := ⟨_, rfl⟩
  have hEl : E.length = 8 := by rw [hE]; exact eight_len n
  have hEa : ∀ i, i < 8 → E[i]? = some (n / 2 ^ (8 * (7 - i)) % 256) := fun i hi => by rw [hE]; exact eight_at n i hi
  rw [← hE]
  have HE := Lib.hid hE; have HEl := Lib.hid hEl; have HEa := Lib.hid hEa
  clear hE hEl hEa
  have hmk : ∀ W : World, (Instr.makeSlice 22 (.int .i64 8) (.int .i64 8)).run Tryd.prog W = .ok (.slice (some ⟨W.heap.size, 0, none⟩) 8 8) (W.alloc (.cells #[.int .u8 0, .int .u8 0, .int .u8 0, .int .u8 0, .int .u8 0, .int .u8 0, .int .u8 0, .int .u8 0] 5)) := fun _ => by kernel_rfl
  go_enter Tryd.func48, Tryd.ntmps48
  go_wp2
  go_loopw [8] (fun i wr => ∃ k : Nat, k ≤ 8 ∧ i = .int .i64 (k : Int) ∧ Below w.heap.size w wr ∧ Blk wr w.heap.size 5 (c8 (E.take k ++ List.replicate (8 - k) 0))) (fun i _ => 8 - (intOf i).toNat)
  case atStart => exact ⟨0, by omega, rfl, (Below.refl _ _).alloc (Nat.le_refl _) _, Blk.new w 5 (c8 (List.replicate 8 0))⟩
  case round =>
    obtain ⟨k, hk, rfl, hbel, B0⟩ := hrel
    by_cases hlt : k < 8
    · have gx := B0.w8 k (by rw [List.length_append, List.length_take, HEl.out, List.length_replicate]; omega)
      have fx := B0.frozen k
      have ak : (0 : Int) ≤ (k : Int) := by omega
      have bk : (k : Int) < 8 := by omega
      have dk : decide ((k : Int) < 8) = true := decide_eq_true bk
      have bz : (0 : Int) ≤ 8 * (7 - (k : Int)) := by omega
      have m1 : IntKind.i64.wrap (7 - (k : Int)) = 7 - (k : Int) := IntWalk.i64_in _ (by omega)
      have m2 : IntKind.i64.wrap (8 * (7 - (k : Int))) = 8 * (7 - (k : Int)) := IntWalk.i64_in _ (by omega)
      go_wp2
      go_roundw
      case rel =>
        have e : ((n : Int) / 2 ^ (8 * (7 - k)) % 256) = ((n / 2 ^ (8 * (7 - k)) % 256 : Nat) : Int) := by simp
        rw [e]
        refine ⟨k + 1, by omega, by go_num, hbel.setCell (Nat.le_refl _) _, ?_⟩
        have h := B0.set_ k (v8 (n / 2 ^ (8 * (7 - k)) % 256))
        obtain ⟨hk', ek⟩ := List.getElem?_eq_some_iff.1 (HEa.out k hlt)
        rw [show 8 - k = (8 - (k + 1)) + 1 by omega, c8_push _ _ _ _ (by rw [List.length_take, HEl.out]; omega)] at h
        rw [List.take_succ_eq_append_getElem hk', ek]
        exact h
      case measure => simp [intOf]; omega
    · have dk : decide ((k : Int) < 8) = false := decide_eq_false (by omega)
      go_wp2
      go_ret
      refine ⟨_, rfl, ?_, hbel⟩
      have h := B0
      rw [show 8 - k = 0 by omega, List.replicate_zero, List.append_nil, List.take_of_length_le (by rw [HEl.out]; omega)] at h
      have h2 := Own.of_Blk h (Nat.le_refl _) (by rw [HEl.out]; omega)
      rw [HEl.out] at h2
      exact h2
theorem reight_f (n : Nat) : wicketref02_eight.f 9 (n : Int) = some (toI (eight n)) := by
  kernel_rfl
theorem reight_any (n : Nat) (w : World) : Calls Tryd.prog 55 #[.int .u64 (n : Int)] w fun e w' => ∃ v, e = .returned v ∧ Own w' w.heap.size v (eight n) ∧ Below w.heap.size w w' :=
  (wicketref02_eight.calls 9 (n : Int) _ w (reight_f n)).mono fun e w' ⟨v, he, hR, hb⟩ => ⟨v, he, Own.of_R hR, hb⟩
theorem rblocks_m (r q : List Nat) (A : Option Addr) (n c : Nat) (w : World) (hr : r.length = 8) (hra : All 4294967296 r) (hn : n = q.length) (hq2 : q.length ≤ 140737488355328) (hqa : All 256 q)
    (hbs : C8 w A q.length q) (ht : Tab2 w) (h2 : 2 < w.heap.size) :
    Calls Tryd.prog 61 #[.agg (r.map v32).toArray, .slice A n c] w fun e w' => ∃ s : List Nat, s = blocks r q (q.length / 64) ∧ e = .returned (.agg (s.map v32).toArray) ∧ Below w.heap.size w w' := by
  subst hn
  exact (rblocks_any r q A c w hr hra hq2 hqa hbs ht h2).mono fun e w' ⟨he, hb⟩ => ⟨_, rfl, he, hb⟩
theorem rwords_m (r : List Nat) (w : World) (hr : r.length = 8) (hra : All 4294967296 r) :
    Calls Tryd.prog 60 #[.agg (r.map v32).toArray] w fun e w' => ∃ v, e = .returned v ∧ Own w' w.heap.size v (bytesR r) ∧ Below w.heap.size w w' := rwords_any r w hr hra
/-- A slice's length, for measures. -/
def slen : Value → Nat | .slice _ n _ => n | _ => 0
theorem slen_slice (A : Option Addr) (n c : Nat) : slen (.slice A n c) = n := rfl
/-- How many zeros are laid behind. -/
def zeros (n : Nat) : Nat := (119 - n % 64) % 64
/-- All that the last blocks are made of. -/
def padOf (p : List Nat) (n : Nat) : List Nat := p ++ [128] ++ List.replicate (zeros p.length) 0 ++ eight n
theorem padOf_all {p : List Nat} (h : All 256 p) (n : Nat) : All 256 (padOf p n) := ((h.app (All.one (by decide))).app (All.rep (by decide) _)).app (eight_all n)
/-- The sum of a Hash: register, how many bytes lie behind it, the bytes since. -/
def total (r : List Nat) (past : Nat) (p : List Nat) : List Nat := bytesR (blocks r (padOf p (8 * (past + p.length))) ((padOf p (8 * (past + p.length))).length / 64))
/-- The cells of the reference's Hash. -/
def rh (r : List Nat) (past : Nat) (v : Value) : List Value := r.map v32 ++ [.int .u64 (past : Int), v]
theorem Own.arg_ {w : World} {base : Nat} {v : Value} {p : List Nat} (h : Own w base v p) : ∃ A n c, n = p.length ∧ v = .slice A n c ∧ C8 w A p.length p := by
  obtain ⟨A, c, he, _, hc⟩ := h.arg
  exact ⟨A, _, c, rfl, he, hc⟩
theorem Own.grown {w w' : World} {base : Nat} {v : Value} {p : List Nat} {row : Option Nat} (h : Own w base v p) (hb : w.grownBy w' row) (hne : ∀ k, row = some k → v.ownBlock ≠ some k) : Own w' base v p :=
  own_move h (fun k hk => hb.block k (own_lt h k hk) (fun e => hne k e.symm hk))
set_option maxRecDepth 100000 in
set_option maxHeartbeats 400000 in
theorem rtotal_any (r p : List Nat) (past : Nat) (A : Option Addr) (c : Nat) (w : World) (hr : r.length = 8) (hra : All 4294967296 r) (hp : p.length ≤ 100000000000000) (hpa : All 256 p) (hpast : past ≤ 1152921504606846976)
    (hbs : C8 w A p.length p) (ht : Tab2 w) (h2 : 2 < w.heap.size) :
    Calls Tryd.prog 43 #[.agg (rh r past (.slice A p.length c)).toArray] w fun e w' => e = .returned (.agg ((total r past p).map v8).toArray) ∧ Below w.heap.size w w' := by
  obtain ⟨L, hL⟩ : ∃ L, L = p.length := ⟨_, rfl⟩
  obtain ⟨Z, hZ⟩ : ∃ Z, Z = zeros p.length := ⟨_, rfl⟩
  have hZ1 : Z = (119 - L % 64) % 64 := by rw [hL, hZ]; rfl
  have HZ := Lib.hid hZ; have HL := Lib.hid hL; have HR := Lib.hid hr
  rw [← hL] at hp hbs
  rw [← hL]
  clear hZ hL hr
  have gp : (rh r past (.slice A L c))[8]? = some (.int .u64 (past : Int)) := by simp [rh, HR.out]
  have gv : (rh r past (.slice A L c))[9]? = some (.slice A L c) := by simp [rh, HR.out]
  have i0 : (0 : Int) ≤ (past : Int) := by omega
  have i1 : (past : Int) ≤ 1152921504606846976 := by omega
  have i2 : (L : Int) ≤ 100000000000000 := by omega
  go_enter Tryd.func43, Tryd.ntmps43
  have HC := Lib.hid hbs
  have HLL : Hid (L = p.length) := HL
  go_wp2_with (first
    | (at_builtin; refine wpl_append rfl _ _ _ rfl info_byte Tryd.underlying22 w.heap.size (.slice (some ⟨w.heap.size + 1 + 1, 0, none⟩) 0 0) [] rfl (Own.of_Blk (p := []) (Blk.new_ _ 5 _ _ (by simp)) (by omega) (by simp)) A c L p rfl HLL.out
        (by rw [← HLL.out]; exact HC.out.below ((((Below.refl _ _).alloc (Nat.le_refl _) _).alloc (by simp) _).alloc (by simp; omega) _)) (by rw [← HLL.out]; simp; omega) (by simp; omega) ?_; intro v1 w1 O1 G1 _)
    | (at_builtin; refine wpl_append rfl _ _ _ rfl info_byte Tryd.underlying22 w.heap.size v1 _ rfl (O1.alloc _) _ _ _ [128] rfl rfl (C8.one_ w1 128 128 rfl _ rfl) (by rw [List.nil_append, ← HLL.out]; simp; omega) (by have := G1.size; simp at this ⊢; omega) ?_; intro v2 w2 O2 G2 _))
  have hb1 : Below w.heap.size w w1 := ((((Below.refl _ _).alloc (Nat.le_refl _) _).alloc (by simp) _).alloc (by simp; omega) _).grown G1 (by simp; omega) (by simp [Value.ownBlock]; omega)
  have hb2 : Below w.heap.size w w2 := (hb1.alloc hb1.size _).grown G2 (by have := hb1.size; simp; omega) (fun k hk => (O1.lt k hk).1)
  have BH1 : Blk w1 w.heap.size 58 (rh r past (.slice A L c)).toArray := (((Blk.new w 58 _).alloc _).alloc _).grown G1 (by simp [Value.ownBlock]; try omega)
  have BH : Blk w2 w.heap.size 58 (rh r past (.slice A L c)).toArray := (BH1.alloc _).grown G2 (O1.ne BH1 (by decide))
  have BZ1 : Blk w1 (w.heap.size + 1) 24 (c8 (List.replicate 32 0)) := ((Blk.new_ (w.alloc _) 24 (c8 (List.replicate 32 0)) _ (by simp)).alloc _).grown G1 (by simp [Value.ownBlock]; try omega)
  have BZ : Blk w2 (w.heap.size + 1) 24 (c8 (List.replicate 32 0)) := (BZ1.alloc _).grown G2 (O1.ne BZ1 (by decide))
  clear G1 G2 O1 hb1 BH1 BZ1
  have hlen : ∀ z, (p ++ [128] ++ List.replicate z 0).length = L + 1 + z := fun z => by rw [HL.out]; simp; try omega
  have HLEN := Lib.hid hlen
  clear hlen
  go_loopw [4] (fun v wr => ∃ z : Nat, z ≤ Z ∧ Own wr w.heap.size v (p ++ [128] ++ List.replicate z 0) ∧ Below w.heap.size w wr ∧ Blk wr w.heap.size 58 (rh r past (.slice A L c)).toArray ∧ Blk wr (w.heap.size + 1) 24 (c8 (List.replicate 32 0))) (fun v _ => L + 70 - slen v)
  case atStart => exact ⟨0, by omega, by rw [List.replicate_zero, List.append_nil]; exact O2, hb2, BH, BZ⟩
  case round =>
    clear O2 hb2 BH BZ
    obtain ⟨z, hz, O, hbel, BH, BZ⟩ := hrel
    obtain ⟨A4, n4, c4, hn4, rfl, hC4⟩ := O.arg_
    rw [HLEN.out] at hn4 hC4
    have hn4' : n4 = L + 1 + z := hn4
    have j0 : (0 : Int) ≤ (n4 : Int) := by omega
    have j1 : (n4 : Int) ≤ 200000000000000 := by omega
    by_cases hlt : z < Z
    · have t0 : ¬ ((n4 : Int) % 64 = 56) := by omega
      have t1 : ((n4 : Int) % 64 != 56) = true := by simpa using t0
      have HN := Lib.hid hn4'
      have hO := Lib.hid O
      clear hn4 hn4' 
      have hs := hbel.size
      go_wp2_with (at_builtin; refine wpl_append rfl _ _ _ rfl info_byte Tryd.underlying22 w.heap.size _ _ rfl (hO.out.alloc _) _ _ _ [0] rfl rfl (C8.one_ _ 0 0 rfl _ rfl) (by rw [HLEN.out]; simp; omega) (by simp; omega) ?_; intro v3 w3 O3 G3 _)
      go_roundw
      case rel =>
        refine ⟨z + 1, by omega, ?_, (hbel.alloc hs _).grown G3 (by simp; omega) (fun k hk => (hO.out.lt k hk).1), (BH.alloc _).grown G3 (hO.out.ne BH (by decide)), (BZ.alloc _).grown G3 (hO.out.ne BZ (by decide))⟩
        rw [List.replicate_succ', ← List.append_assoc]
        exact O3
      case measure =>
        obtain ⟨A5, n5, c5, hn5, rfl, _⟩ := O3.arg_
        have h1 := HN.out
        have h2 := HLEN.out z
        simp only [slen_slice]
        rw [List.length_append, h2] at hn5
        simp at hn5
        omega
    · have t0 : ((n4 : Int) % 64 = 56) := by omega
      have T0 := Lib.hid t0
      have t1 : ((n4 : Int) % 64 != 56) = false := by simpa using t0
      clear t0
      have hzZ : z = Z := by omega
      obtain ⟨q4, hq4⟩ : ∃ q4, q4 = p ++ [128] ++ List.replicate z 0 := ⟨_, rfl⟩
      rw [← hq4] at O
      have HN : Hid (n4 = q4.length) := by rw [hq4, HLEN.out]; exact hn4
      have HQ : Hid (padOf p (8 * (past + L)) = q4 ++ eight (8 * (past + L))) := by
        show padOf p _ = _
        rw [hq4, hzZ, HZ.out]
        rfl
      have hO := Lib.hid O
      have n4b : n4 ≤ 100000000001000 := by omega
      clear hn4 hn4' hC4 hzZ hq4
      obtain ⟨N, hN⟩ : ∃ N, N = 8 * (past + L) := ⟨_, rfl⟩
      have h8 : ∀ W : World, Calls Tryd.prog 55 #[.int .u64 (8 * ((past : Int) + (L : Int)))] W fun e w' => ∃ v, e = .returned v ∧ Own w' W.heap.size v (eight N) ∧ Below W.heap.size W w' := fun W => by
        have h := reight_any N W
        rw [hN] at h ⊢
        rw [show ((8 * (past + L) : Nat) : Int) = 8 * ((past : Int) + (L : Int)) by omega] at h
        exact h
      have H8 := Lib.hid h8
      have HNN := Lib.hid hN
      obtain ⟨E, hE⟩ : ∃ E, E = eight N := ⟨_, rfl⟩
      have hEl : E.length = 8 := by rw [hE]; exact eight_len N
      have hEa : All 256 E := by rw [hE]; exact eight_all N
      rw [← hE] at h8
      rw [← hN, ← hE] at HQ
      have HE := Lib.hid hE; have HEl := Lib.hid hEl
      have hqa : All 256 (padOf p N) := padOf_all hpa N
      have hql : (padOf p N).length = n4 + 8 := by rw [HQ.out, List.length_append, HEl.out, HN.out]
      obtain ⟨q, hq⟩ : ∃ q, q = padOf p N := ⟨_, rfl⟩
      rw [← hq] at hqa hql HQ
      have HQL := Lib.hid hql; have HQE := Lib.hid hq
      have H8 := Lib.hid h8
      clear hN h8 hE hEl hql hq
      have hws := hbel.size
      go_wp2_with (first
        | (go_at_call 55; (with_reducible refine (H8.out _).mono ?_); rintro e w5 ⟨v5, rfl, O5, hb5⟩; obtain ⟨A5, n5, c5, hn5, rfl, hC5⟩ := O5.arg_; have HN5 := Lib.hid hn5; clear hn5)
        | (at_builtin; refine wpl_append rfl _ _ _ rfl info_byte Tryd.underlying22 w.heap.size _ _ rfl (hO.out.below hb5) _ _ _ E rfl HN5.out hC5 (by rw [← HN.out, HEl.out]; omega) (by have := hb5.size; omega) ?_; intro v6 w6 O6 G6 _
           have BH6 := (BH.below hb5 BH.lt).grown G6 (hO.out.ne BH (by decide)); have BZ6 := (BZ.below hb5 BZ.lt).grown G6 (hO.out.ne BZ (by decide))
           have hb6 := (hbel.trans (hb5.mono hws)).grown G6 (by have := hb5.size; omega) (fun k hk => (hO.out.lt k hk).1)
           rw [← HQ.out] at O6; obtain ⟨A6, n6, c6, hn6, rfl, hC6⟩ := O6.arg_; have HN6 := Lib.hid hn6; clear hn6)
        | (refine wpl_load rfl 56 _ rfl w.heap.size 0 rfl 58 [] (r.map v32) [.int .u64 (past : Int), .slice A L c] BH6 rfl _ Tryd.underlying56 rfl (by rw [List.length_map, HR.out]; kernel_rfl) ?_)
        | (go_at_call 61; (with_reducible refine (rblocks_m r q A6 n6 c6 _ HR.out hra HN6.out (by rw [HQL.out]; omega) hqa hC6 (ht.below hb6 h2) (by have := hb6.size; omega)).mono ?_); rintro e w7 ⟨s, hs, rfl, hb7⟩; have HSs := Lib.hid hs; clear hs)
        | (go_at_call 60; (with_reducible refine (rwords_m s _ (by rw [HSs.out]; exact blocks_len HR.out _ _) (by rw [HSs.out]; exact blocks_all hra _ _)).mono ?_); rintro e w8 ⟨v8_, rfl, O8, hb8⟩; obtain ⟨A8, n8, c8_, hn8, rfl, hC8⟩ := O8.arg_
           have hDl : (bytesR s).length = 32 := by rw [bytesR_len, HSs.out, blocks_len HR.out]
           obtain ⟨b8, o8, rfl, hlt8, hbs8⟩ := hC8.at_ (by omega)
           obtain rfl : n8 = 32 := hn8.trans hDl
           clear hn8))
      obtain ⟨D, hD⟩ : ∃ D, D = bytesR s := ⟨_, rfl⟩
      have hDl : D.length = 32 := by rw [hD, bytesR_len, HSs.out, blocks_len HR.out]
      have hDa : All 256 D := by rw [hD]; exact bytesR_all s
      rw [← hD] at hbs8
      have HT : Hid (total r past p = D) := by
        show total r past p = D
        rw [hD, HSs.out, HQE.out, HNN.out, HL.out]
        rfl
      have HDl := Lib.hid hDl
      have hb8' := (hb6.trans (hb7.mono hb6.size)).trans (hb8.mono (hb6.trans (hb7.mono hb6.size)).size)
      have BZ8 := (BZ6.below hb7 BZ6.lt).below hb8 (BZ6.below hb7 BZ6.lt).lt
      clear hD hDl hC8 O8 hb8 hb7 hb6 BZ6 BH6 hC6 O6 G6 hC5 O5 hb5 hbel BH BZ hO O
      have hws8 := hb8'.size
      have hlt9 := BZ8.lt
      go_loopw [7] (fun i wr => ∃ k : Nat, k ≤ 32 ∧ i = .int .i64 (k : Int) ∧ Below w.heap.size w wr ∧ Below w8.heap.size w8 wr ∧ Blk wr (w.heap.size + 1) 24 (c8 (List.replicate 32 0)) ∧ Blk wr w8.heap.size 24 (c8 (D.take k ++ List.replicate (32 - k) 0))) (fun i _ => 32 - (intOf i).toNat)
      case atStart => exact ⟨0, by omega, rfl, hb8'.alloc hws8 _, (Below.refl _ _).alloc (Nat.le_refl _) _, BZ8.alloc _, Blk.new w8 24 (c8 (List.replicate 32 0))⟩
      case round =>
        clear hb8' BZ8
        obtain ⟨k, hk, rfl, hbel, hbel8, BZ, BD⟩ := hrel
        by_cases hk32 : k < 32
        · have dk : decide ((k : Int) < 32) = true := decide_eq_true (by omega)
          have ak : (0 : Int) ≤ (k : Int) := by omega
          have bk : (k : Int) < 32 := by omega
          obtain ⟨x, ex, gx⟩ : ∃ x : Nat, x = D.getD k 0 ∧ wr.cell? ⟨b8, o8 + k, none⟩ = some (.int .u8 (x : Int)) := ⟨_, rfl, (hbs8.below hbel8 hlt8) k (by rw [HDl.out]; omega)⟩
          have EX := Lib.hid ex
          clear ex
          have gd := BD.w8 k (by rw [List.length_append, List.length_take, HDl.out, List.length_replicate]; omega)
          have fd := BD.frozen k
          go_wp2
          go_roundw
          case rel =>
            refine ⟨k + 1, by omega, by go_num, hbel.setCell (by show w.heap.size ≤ w8.heap.size; omega) _, hbel8.setCell (Nat.le_refl _) _, BZ.far (by show w.heap.size + 1 ≠ w8.heap.size; omega) _, ?_⟩
            have h := BD.set_ k (v8 x)
            rw [show 32 - k = (32 - (k + 1)) + 1 by omega, c8_push _ _ _ _ (by rw [List.length_take, HDl.out]; omega)] at h
            rw [List.take_succ_eq_append_getElem (by rw [HDl.out]; omega), show D[k]'(by rw [HDl.out]; omega) = x by rw [EX.out, List.getD_eq_getElem?_getD, List.getElem?_eq_getElem (by rw [HDl.out]; omega)]; rfl]
            exact h
          case measure => simp [intOf]; omega
        · have dk : decide ((k : Int) < 32) = false := decide_eq_false (by omega)
          have BD' : Blk wr w8.heap.size 24 ([] ++ D.map v8 ++ []).toArray := by
            have h := BD
            rw [show 32 - k = 0 by omega, List.replicate_zero, List.append_nil, List.take_of_length_le (by rw [HDl.out]; omega)] at h
            rw [List.nil_append, List.append_nil]
            exact h
          have BZ' : Blk wr (w.heap.size + 1) 24 ([] ++ (List.replicate 32 0).map v8 ++ []).toArray := BZ
          have HB := Lib.hid BD'; have HBZ := Lib.hid BZ'
          clear BD BD' BZ BZ'
          go_wp2_with (first
            | (refine wpl_load rfl 24 _ rfl w8.heap.size 0 rfl 24 [] (D.map v8) [] HB.out rfl _ Tryd.underlying24 rfl (by rw [List.length_map, HDl.out]; kernel_rfl) ?_)
            | (refine wpl_store rfl 24 _ _ rfl (w.heap.size + 1) 0 rfl 24 [] ((List.replicate 32 0).map v8) [] (D.map v8) rfl HBZ.out rfl (by rw [List.length_map, HDl.out]; rfl) (by rw [List.length_map, HDl.out]; kernel_rfl) (v8_one D) ?_; intro w9 B9 O9))
          rw [HT.out]
          exact bodyPost_ret (results_cell_row rfl _ _ (w.heap.size + 1) 24 (D.map v8).toArray (0, 0) _ rfl (by have h9 := B9; rw [List.nil_append, List.append_nil] at h9; exact h9) Tryd.underlying24 rfl (by rw [show (D.map v8).toArray.size = 32 by simp [HDl.out]]; kernel_rfl)) rfl ⟨rfl, O9.below hbel (by omega)⟩
end Go.Proofs.YtfedlgcpgfofjaaDoor.Sha
