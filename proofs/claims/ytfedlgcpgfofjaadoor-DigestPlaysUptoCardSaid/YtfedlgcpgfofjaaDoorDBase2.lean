/-
  eight (both), and the reference's Total and Sum: what the calls do.
  Blocks of bytes that come in pieces: plain laws.
  (*Hash).Write: what the call does, walked.
  register.bytes, New, Begin: what the calls do, walked.
  New, Begin, the reference's Sum, (*Hash).Sum, Sum: what the calls do, walked.
  (*Hash).Sum, Sum: what the calls do, walked.
-/
import Derived.Test.YtfedlgcpgfofjaaDoorDBase1
import Derived.Test.YtfedlgcpgfofjaaDoorPAllx2
import Derived.Deep.RegionWith
import Derived.Deep.RegionLaw
namespace Go.Proofs.YtfedlgcpgfofjaaDoor.Sha
open Go.RowKit Go.Proofs.YtfedlgcpgfofjaaDoorW.PrintWords Go.Proofs.YtfedlgcpgfofjaaDoor.PAll
set_option linter.unusedVariables false
theorem eight_at (n i : Nat) (h : i < 8) : (eight n)[i]? = some (n / 2 ^ (8 * (7 - i)) % 256) := by
  simp [eight, h]
theorem eight_len (n : Nat) : (eight n).length = 8 := by simp [eight]
theorem eight_all (n : Nat) : All 256 (eight n) := by
  intro x hx
  obtain ⟨i, _, rfl⟩ := List.mem_map.1 hx
  exact Nat.mod_lt _ (by decide)
theorem c8_push (l : List Nat) (m i x : Nat) (hi : l.length = i) : (c8 (l ++ List.replicate (m + 1) 0)).setIfInBounds i (v8 x) = c8 (l ++ [x] ++ List.replicate m 0) := by
  subst hi
  unfold c8
  rw [set_list, List.replicate_succ, List.set_append_right _ _ (Nat.le_refl _), Nat.sub_self, List.set_cons_zero, List.append_assoc]
  rfl
set_option maxRecDepth 100000 in
set_option maxHeartbeats 400000 in
theorem eight_any (n : Nat) (w : World) (hn : n < 18446744073709551616) :
    Calls Tryd.prog 48 #[.int .u64 (n : Int)] w fun e w' => ∃ v, e = .returned v ∧ Own w' w.heap.size v (eight n) ∧ Below w.heap.size w w' := by
  have h0 : (0 : Int) ≤ (n : Int) := by omega
  have h1 : (n : Int) < 18446744073709551616 := by omega
  obtain ⟨E, hE⟩ : ∃ E, E = eight n := ⟨_, rfl⟩
  have hEl : E.length = 8 := by rw [hE]; exact eight_len n
  have hEa : ∀ i, i < 8 → E[i]? = some (n / 2 ^ (8 * (7 - i)) % 256) := fun i hi => by rw [hE]; exact eight_at n i hi
  rw [← hE]
  have HE := Lib.hid hE; have HEl := Lib.hid hEl; have HEa := Lib.hid hEa
  clear hE hEl hEa
  have hmk : ∀ W : World, (Instr.makeSlice 22 (.int .i64 8) (.int .i64 8)).run Tryd.prog W = .ok (.slice (some ⟨W.heap.size, 0, none⟩) 8 8) (W.alloc (.cells #[.int .u8 0, .int .u8 0, .int .u8 0, .int .u8 0, .int .u8 0, .int .u8 0, .int .u8 0, .int .u8 0] 5)) := fun _ => by kernel_rfl
  go_enter Tryd.func48, Tryd.ntmps48
  go_wp2
  go_loopw [8] (fun i wr => ∃ k : Nat, k ≤ 8 ∧ i = .int .i64 (k : Int) ∧ Below w.heap.size w wr ∧ Blk wr w.heap.size 5 (c8 (E.take k ++ List.replicate (8 - k) 0))) (fun i _ => 8 - (intOf i).toNat)
  case atStart => exact ⟨0, by omega, rfl, (Below.refl _ _).alloc (Nat.le_refl _) _, Blk.new w 5 (c8 (List.replicate 8 0))⟩
  case round =>
    obtain ⟨k, hk, rfl, hbel, B0⟩ := hrel
    by_cases hlt : k < 8
    · have gx := B0.w8 k (by rw [List.length_append, List.length_take, HEl.out, List.length_replicate]; omega)
      have fx := B0.frozen k
      have ak : (0 : Int) ≤ (k : Int) := by omega
      have bk : (k : Int) < 8 := by omega
      have dk : decide ((k : Int) < 8) = true := decide_eq_true bk
      have bz : (0 : Int) ≤ 8 * (7 - (k : Int)) := by omega
      have m1 : IntKind.i64.wrap (7 - (k : Int)) = 7 - (k : Int) := IntWalk.i64_in _ (by omega)
      have m2 : IntKind.i64.wrap (8 * (7 - (k : Int))) = 8 * (7 - (k : Int)) := IntWalk.i64_in _ (by omega)
      go_wp2
      go_roundw
      case rel =>
        have e : ((n : Int) / 2 ^ (8 * (7 - k)) % 256) = ((n / 2 ^ (8 * (7 - k)) % 256 : Nat) : Int) := by simp
        rw [e]
        refine ⟨k + 1, by omega, by go_num, hbel.setCell (Nat.le_refl _) _, ?_⟩
        have h := B0.set_ k (v8 (n / 2 ^ (8 * (7 - k)) % 256))
        obtain ⟨hk', ek⟩ := List.getElem?_eq_some_iff.1 (HEa.out k hlt)
        rw [show 8 - k = (8 - (k + 1)) + 1 by omega, c8_push _ _ _ _ (by rw [List.length_take, HEl.out]; omega)] at h
        rw [List.take_succ_eq_append_getElem hk', ek]
        exact h
      case measure => simp [intOf]; omega
    · have dk : decide ((k : Int) < 8) = false := decide_eq_false (by omega)
      go_wp2
      go_ret
      refine ⟨_, rfl, ?_, hbel⟩
      have h := B0
      rw [show 8 - k = 0 by omega, List.replicate_zero, List.append_nil, List.take_of_length_le (by rw [HEl.out]; omega)] at h
      have h2 := Own.of_Blk h (Nat.le_refl _) (by rw [HEl.out]; omega)
      rw [HEl.out] at h2
      exact h2
theorem reight_f (n : Nat) : wicketref02_eight.f 9 (n : Int) = some (toI (eight n)) := by
  kernel_rfl
theorem reight_any (n : Nat) (w : World) : Calls Tryd.prog 55 #[.int .u64 (n : Int)] w fun e w' => ∃ v, e = .returned v ∧ Own w' w.heap.size v (eight n) ∧ Below w.heap.size w w' :=
  (wicketref02_eight.calls 9 (n : Int) _ w (reight_f n)).mono fun e w' ⟨v, he, hR, hb⟩ => ⟨v, he, Own.of_R hR, hb⟩
theorem rblocks_m (r q : List Nat) (A : Option Addr) (n c : Nat) (w : World) (hr : r.length = 8) (hra : All 4294967296 r) (hn : n = q.length) (hq2 : q.length ≤ 140737488355328) (hqa : All 256 q)
    (hbs : C8 w A q.length q) (ht : Tab2 w) (h2 : 2 < w.heap.size) :
    Calls Tryd.prog 61 #[.agg (r.map v32).toArray, .slice A n c] w fun e w' => ∃ s : List Nat, s = blocks r q (q.length / 64) ∧ e = .returned (.agg (s.map v32).toArray) ∧ Below w.heap.size w w' := by
  subst hn
  exact (rblocks_any r q A c w hr hra hq2 hqa hbs ht h2).mono fun e w' ⟨he, hb⟩ => ⟨_, rfl, he, hb⟩
theorem rwords_m (r : List Nat) (w : World) (hr : r.length = 8) (hra : All 4294967296 r) :
    Calls Tryd.prog 60 #[.agg (r.map v32).toArray] w fun e w' => ∃ v, e = .returned v ∧ Own w' w.heap.size v (bytesR r) ∧ Below w.heap.size w w' := rwords_any r w hr hra
/-- A slice's length, for measures. -/
def slen : Value → Nat | .slice _ n _ => n | _ => 0
theorem slen_slice (A : Option Addr) (n c : Nat) : slen (.slice A n c) = n := rfl
/-- How many zeros are laid behind. -/
def zeros (n : Nat) : Nat := (119 - n % 64) % 64
/-- All that the last blocks are made of. -/
def padOf (p : List Nat) (n : Nat) : List Nat := p ++ [128] ++ List.replicate (zeros p.length) 0 ++ eight n
theorem padOf_all {p : List Nat} (h : All 256 p) (n : Nat) : All 256 (padOf p n) := ((h.app (All.one (by decide))).app (All.rep (by decide) _)).app (eight_all n)
/-- The sum of a Hash: register, how many bytes lie behind it, the bytes since. -/
def total (r : List Nat) (past : Nat) (p : List Nat) : List Nat := bytesR (blocks r (padOf p (8 * (past + p.length))) ((padOf p (8 * (past + p.length))).length / 64))
/-- The cells of the reference's Hash. -/
def rh (r : List Nat) (past : Nat) (v : Value) : List Value := r.map v32 ++ [.int .u64 (past : Int), v]
theorem Own.arg_ {w : World} {base : Nat} {v : Value} {p : List Nat} (h : Own w base v p) : ∃ A n c, n = p.length ∧ v = .slice A n c ∧ C8 w A p.length p := by
  obtain ⟨A, c, he, _, hc⟩ := h.arg
  exact ⟨A, _, c, rfl, he, hc⟩
theorem Own.grown {w w' : World} {base : Nat} {v : Value} {p : List Nat} {row : Option Nat} (h : Own w base v p) (hb : w.grownBy w' row) (hne : ∀ k, row = some k → v.ownBlock ≠ some k) : Own w' base v p :=
  own_move h (fun k hk => hb.block k (own_lt h k hk) (fun e => hne k e.symm hk))
set_option maxRecDepth 100000 in
set_option maxHeartbeats 400000 in
theorem rtotal_any (r p : List Nat) (past : Nat) (A : Option Addr) (c : Nat) (w : World) (hr : r.length = 8) (hra : All 4294967296 r) (hp : p.length ≤ 100000000000000) (hpa : All 256 p) (hpast : past ≤ 1152921504606846976)
    (hbs : C8 w A p.length p) (ht : Tab2 w) (h2 : 2 < w.heap.size) :
    Calls Tryd.prog 43 #[.agg (rh r past (.slice A p.length c)).toArray] w fun e w' => e = .returned (.agg ((total r past p).map v8).toArray) ∧ Below w.heap.size w w' := by
  obtain ⟨L, hL⟩ : ∃ L, L = p.length := ⟨_, rfl⟩
  obtain ⟨Z, hZ⟩ : ∃ Z, Z = zeros p.length := ⟨_, rfl⟩
  have hZ1 : Z = (119 - L % 64) % 64 := by rw [hL, hZ]; rfl
  have HZ := Lib.hid hZ; have HL := Lib.hid hL; have HR := Lib.hid hr
  rw [← hL] at hp hbs
  rw [← hL]
  clear hZ hL hr
  have gp : (rh r past (.slice A L c))[8]? = some (.int .u64 (past : Int)) := by simp [rh, HR.out]
  have gv : (rh r past (.slice A L c))[9]? = some (.slice A L c) := by simp [rh, HR.out]
  have i0 : (0 : Int) ≤ (past : Int) := by omega
  have i1 : (past : Int) ≤ 1152921504606846976 := by omega
  have i2 : (L : Int) ≤ 100000000000000 := by omega
  go_enter Tryd.func43, Tryd.ntmps43
  have HC := Lib.hid hbs
  have HLL : Hid (L = p.length) := HL
  go_wp2_with (first
    | (at_builtin; refine wpl_append rfl _ _ _ rfl info_byte Tryd.underlying22 w.heap.size (.slice (some ⟨w.heap.size + 1 + 1, 0, none⟩) 0 0) [] rfl (Own.of_Blk (p := []) (Blk.new_ _ 5 _ _ (by simp)) (by omega) (by simp)) A c L p rfl HLL.out
        (by rw [← HLL.out]; exact HC.out.below ((((Below.refl _ _).alloc (Nat.le_refl _) _).alloc (by simp) _).alloc (by simp; omega) _)) (by rw [← HLL.out]; simp; omega) (by simp; omega) ?_; intro v1 w1 O1 G1 _)
    | (at_builtin; refine wpl_append rfl _ _ _ rfl info_byte Tryd.underlying22 w.heap.size v1 _ rfl (O1.alloc _) _ _ _ [128] rfl rfl (C8.one_ w1 128 128 rfl _ rfl) (by rw [List.nil_append, ← HLL.out]; simp; omega) (by have := G1.size; simp at this ⊢; omega) ?_; intro v2 w2 O2 G2 _))
  have hb1 : Below w.heap.size w w1 := ((((Below.refl _ _).alloc (Nat.le_refl _) _).alloc (by simp) _).alloc (by simp; omega) _).grown G1 (by simp; omega) (by simp [Value.ownBlock]; omega)
  have hb2 : Below w.heap.size w w2 := (hb1.alloc hb1.size _).grown G2 (by have := hb1.size; simp; omega) (fun k hk => (O1.lt k hk).1)
  have BH1 : Blk w1 w.heap.size 58 (rh r past (.slice A L c)).toArray := (((Blk.new w 58 _).alloc _).alloc _).grown G1 (by simp [Value.ownBlock]; try omega)
  have BH : Blk w2 w.heap.size 58 (rh r past (.slice A L c)).toArray := (BH1.alloc _).grown G2 (O1.ne BH1 (by decide))
  have BZ1 : Blk w1 (w.heap.size + 1) 24 (c8 (List.replicate 32 0)) := ((Blk.new_ (w.alloc _) 24 (c8 (List.replicate 32 0)) _ (by simp)).alloc _).grown G1 (by simp [Value.ownBlock]; try omega)
  have BZ : Blk w2 (w.heap.size + 1) 24 (c8 (List.replicate 32 0)) := (BZ1.alloc _).grown G2 (O1.ne BZ1 (by decide))
  clear G1 G2 O1 hb1 BH1 BZ1
  have hlen : ∀ z, (p ++ [128] ++ List.replicate z 0).length = L + 1 + z := fun z => by rw [HL.out]; simp; try omega
  have HLEN := Lib.hid hlen
  clear hlen
  go_loopw [4] (fun v wr => ∃ z : Nat, z ≤ Z ∧ Own wr w.heap.size v (p ++ [128] ++ List.replicate z 0) ∧ Below w.heap.size w wr ∧ Blk wr w.heap.size 58 (rh r past (.slice A L c)).toArray ∧ Blk wr (w.heap.size + 1) 24 (c8 (List.replicate 32 0))) (fun v _ => L + 70 - slen v)
  case atStart => exact ⟨0, by omega, by rw [List.replicate_zero, List.append_nil]; exact O2, hb2, BH, BZ⟩
  case round =>
    clear O2 hb2 BH BZ
    obtain ⟨z, hz, O, hbel, BH, BZ⟩ := hrel
    obtain ⟨A4, n4, c4, hn4, rfl, hC4⟩ := O.arg_
    rw [HLEN.out] at hn4 hC4
    have hn4' : n4 = L + 1 + z := hn4
    have j0 : (0 : Int) ≤ (n4 : Int) := by omega
    have j1 : (n4 : Int) ≤ 200000000000000 := by omega
    by_cases hlt : z < Z
    · have t0 : ¬ ((n4 : Int) % 64 = 56) := by omega
      have t1 : ((n4 : Int) % 64 != 56) = true := by simpa using t0
      have HN := Lib.hid hn4'
      have hO := Lib.hid O
      clear hn4 hn4' 
      have hs := hbel.size
      go_wp2_with (at_builtin; refine wpl_append rfl _ _ _ rfl info_byte Tryd.underlying22 w.heap.size _ _ rfl (hO.out.alloc _) _ _ _ [0] rfl rfl (C8.one_ _ 0 0 rfl _ rfl) (by rw [HLEN.out]; simp; omega) (by simp; omega) ?_; intro v3 w3 O3 G3 _)
      go_roundw
      case rel =>
        refine ⟨z + 1, by omega, ?_, (hbel.alloc hs _).grown G3 (by simp; omega) (fun k hk => (hO.out.lt k hk).1), (BH.alloc _).grown G3 (hO.out.ne BH (by decide)), (BZ.alloc _).grown G3 (hO.out.ne BZ (by decide))⟩
        rw [List.replicate_succ', ← List.append_assoc]
        exact O3
      case measure =>
        obtain ⟨A5, n5, c5, hn5, rfl, _⟩ := O3.arg_
        have h1 := HN.out
        have h2 := HLEN.out z
        simp only [slen_slice]
        rw [List.length_append, h2] at hn5
        simp at hn5
        omega
    · have t0 : ((n4 : Int) % 64 = 56) := by omega
      have T0 := Lib.hid t0
      have t1 : ((n4 : Int) % 64 != 56) = false := by simpa using t0
      clear t0
      have hzZ : z = Z := by omega
      obtain ⟨q4, hq4⟩ : ∃ q4, q4 = p ++ [128] ++ List.replicate z 0 := ⟨_, rfl⟩
      rw [← hq4] at O
      have HN : Hid (n4 = q4.length) := by rw [hq4, HLEN.out]; exact hn4
      have HQ : Hid (padOf p (8 * (past + L)) = q4 ++ eight (8 * (past + L))) := by
        show padOf p _ = _
        rw [hq4, hzZ, HZ.out]
        rfl
      have hO := Lib.hid O
      have n4b : n4 ≤ 100000000001000 := by omega
      clear hn4 hn4' hC4 hzZ hq4
      obtain ⟨N, hN⟩ : ∃ N, N = 8 * (past + L) := ⟨_, rfl⟩
      have h8 : ∀ W : World, Calls Tryd.prog 55 #[.int .u64 (8 * ((past : Int) + (L : Int)))] W fun e w' => ∃ v, e = .returned v ∧ Own w' W.heap.size v (eight N) ∧ Below W.heap.size W w' := fun W => by
        have h := reight_any N W
        rw [hN] at h ⊢
        rw [show ((8 * (past + L) : Nat) : Int) = 8 * ((past : Int) + (L : Int)) by omega] at h
        exact h
      have H8 := Lib.hid h8
      have HNN := Lib.hid hN
      obtain ⟨E, hE⟩ : ∃ E, E = eight N := ⟨_, rfl⟩
      have hEl : E.length = 8 := by rw [hE]; exact eight_len N
      have hEa : All 256 E := by rw [hE]; exact eight_all N
      rw [← hE] at h8
      rw [← hN, ← hE] at HQ
      have HE := Lib.hid hE; have HEl := Lib.hid hEl
      have hqa : All 256 (padOf p N) := padOf_all hpa N
      have hql : (padOf p N).length = n4 + 8 := by rw [HQ.out, List.length_append, HEl.out, HN.out]
      obtain ⟨q, hq⟩ : ∃ q, q = padOf p N := ⟨_, rfl⟩
      rw [← hq] at hqa hql HQ
      have HQL := Lib.hid hql; have HQE := Lib.hid hq
      have H8 := Lib.hid h8
      clear hN h8 hE hEl hql hq
      have hws := hbel.size
      go_wp2_with (first
        | (go_at_call 55; (with_reducible refine (H8.out _).mono ?_); rintro e w5 ⟨v5, rfl, O5, hb5⟩; obtain ⟨A5, n5, c5, hn5, rfl, hC5⟩ := O5.arg_; have HN5 := Lib.hid hn5; clear hn5)
        | (at_builtin; refine wpl_append rfl _ _ _ rfl info_byte Tryd.underlying22 w.heap.size _ _ rfl (hO.out.below hb5) _ _ _ E rfl HN5.out hC5 (by rw [← HN.out, HEl.out]; omega) (by have := hb5.size; omega) ?_; intro v6 w6 O6 G6 _
           have BH6 := (BH.below hb5 BH.lt).grown G6 (hO.out.ne BH (by decide)); have BZ6 := (BZ.below hb5 BZ.lt).grown G6 (hO.out.ne BZ (by decide))
           have hb6 := (hbel.trans (hb5.mono hws)).grown G6 (by have := hb5.size; omega) (fun k hk => (hO.out.lt k hk).1)
           rw [← HQ.out] at O6; obtain ⟨A6, n6, c6, hn6, rfl, hC6⟩ := O6.arg_; have HN6 := Lib.hid hn6; clear hn6)
        | (refine wpl_load rfl 56 _ rfl w.heap.size 0 rfl 58 [] (r.map v32) [.int .u64 (past : Int), .slice A L c] BH6 rfl _ Tryd.underlying56 rfl (by rw [List.length_map, HR.out]; kernel_rfl) ?_)
        | (go_at_call 61; (with_reducible refine (rblocks_m r q A6 n6 c6 _ HR.out hra HN6.out (by rw [HQL.out]; omega) hqa hC6 (ht.below hb6 h2) (by have := hb6.size; omega)).mono ?_); rintro e w7 ⟨s, hs, rfl, hb7⟩; have HSs := Lib.hid hs; clear hs)
        | (go_at_call 60; (with_reducible refine (rwords_m s _ (by rw [HSs.out]; exact blocks_len HR.out _ _) (by rw [HSs.out]; exact blocks_all hra _ _)).mono ?_); rintro e w8 ⟨v8_, rfl, O8, hb8⟩; obtain ⟨A8, n8, c8_, hn8, rfl, hC8⟩ := O8.arg_
           have hDl : (bytesR s).length = 32 := by rw [bytesR_len, HSs.out, blocks_len HR.out]
           obtain ⟨b8, o8, rfl, hlt8, hbs8⟩ := hC8.at_ (by omega)
           obtain rfl : n8 = 32 := hn8.trans hDl
           clear hn8))
      obtain ⟨D, hD⟩ : ∃ D, D = bytesR s := ⟨_, rfl⟩
      have hDl : D.length = 32 := by rw [hD, bytesR_len, HSs.out, blocks_len HR.out]
      have hDa : All 256 D := by rw [hD]; exact bytesR_all s
      rw [← hD] at hbs8
      have HT : Hid (total r past p = D) := by
        show total r past p = D
        rw [hD, HSs.out, HQE.out, HNN.out, HL.out]
        rfl
      have HDl := Lib.hid hDl
      have hb8' := (hb6.trans (hb7.mono hb6.size)).trans (hb8.mono (hb6.trans (hb7.mono hb6.size)).size)
      have BZ8 := (BZ6.below hb7 BZ6.lt).below hb8 (BZ6.below hb7 BZ6.lt).lt
      clear hD hDl hC8 O8 hb8 hb7 hb6 BZ6 BH6 hC6 O6 G6 hC5 O5 hb5 hbel BH BZ hO O
      have hws8 := hb8'.size
      have hlt9 := BZ8.lt
      go_loopw [7] (fun i wr => ∃ k : Nat, k ≤ 32 ∧ i = .int .i64 (k : Int) ∧ Below w.heap.size w wr ∧ Below w8.heap.size w8 wr ∧ Blk wr (w.heap.size + 1) 24 (c8 (List.replicate 32 0)) ∧ Blk wr w8.heap.size 24 (c8 (D.take k ++ List.replicate (32 - k) 0))) (fun i _ => 32 - (intOf i).toNat)
      case atStart => exact ⟨0, by omega, rfl, hb8'.alloc hws8 _, (Below.refl _ _).alloc (Nat.le_refl _) _, BZ8.alloc _, Blk.new w8 24 (c8 (List.replicate 32 0))⟩
      case round =>
        clear hb8' BZ8
        obtain ⟨k, hk, rfl, hbel, hbel8, BZ, BD⟩ := hrel
        by_cases hk32 : k < 32
        · have dk : decide ((k : Int) < 32) = true := decide_eq_true (by omega)
          have ak : (0 : Int) ≤ (k : Int) := by omega
          have bk : (k : Int) < 32 := by omega
          obtain ⟨x, ex, gx⟩ : ∃ x : Nat, x = D.getD k 0 ∧ wr.cell? ⟨b8, o8 + k, none⟩ = some (.int .u8 (x : Int)) := ⟨_, rfl, (hbs8.below hbel8 hlt8) k (by rw [HDl.out]; omega)⟩
          have EX := Lib.hid ex
          clear ex
          have gd := BD.w8 k (by rw [List.length_append, List.length_take, HDl.out, List.length_replicate]; omega)
          have fd := BD.frozen k
          go_wp2
          go_roundw
          case rel =>
            refine ⟨k + 1, by omega, by go_num, hbel.setCell (by show w.heap.size ≤ w8.heap.size; omega) _, hbel8.setCell (Nat.le_refl _) _, BZ.far (by show w.heap.size + 1 ≠ w8.heap.size; omega) _, ?_⟩
            have h := BD.set_ k (v8 x)
            rw [show 32 - k = (32 - (k + 1)) + 1 by omega, c8_push _ _ _ _ (by rw [List.length_take, HDl.out]; omega)] at h
            rw [List.take_succ_eq_append_getElem (by rw [HDl.out]; omega), show D[k]'(by rw [HDl.out]; omega) = x by rw [EX.out, List.getD_eq_getElem?_getD, List.getElem?_eq_getElem (by rw [HDl.out]; omega)]; rfl]
            exact h
          case measure => simp [intOf]; omega
        · have dk : decide ((k : Int) < 32) = false := decide_eq_false (by omega)
          have BD' : Blk wr w8.heap.size 24 ([] ++ D.map v8 ++ []).toArray := by
            have h := BD
            rw [show 32 - k = 0 by omega, List.replicate_zero, List.append_nil, List.take_of_length_le (by rw [HDl.out]; omega)] at h
            rw [List.nil_append, List.append_nil]
            exact h
          have BZ' : Blk wr (w.heap.size + 1) 24 ([] ++ (List.replicate 32 0).map v8 ++ []).toArray := BZ
          have HB := Lib.hid BD'; have HBZ := Lib.hid BZ'
          clear BD BD' BZ BZ'
          go_wp2_with (first
            | (refine wpl_load rfl 24 _ rfl w8.heap.size 0 rfl 24 [] (D.map v8) [] HB.out rfl _ Tryd.underlying24 rfl (by rw [List.length_map, HDl.out]; kernel_rfl) ?_)
            | (refine wpl_store rfl 24 _ _ rfl (w.heap.size + 1) 0 rfl 24 [] ((List.replicate 32 0).map v8) [] (D.map v8) rfl HBZ.out rfl (by rw [List.length_map, HDl.out]; rfl) (by rw [List.length_map, HDl.out]; kernel_rfl) (v8_one D) ?_; intro w9 B9 O9))
          rw [HT.out]
          exact bodyPost_ret (results_cell_row rfl _ _ (w.heap.size + 1) 24 (D.map v8).toArray (0, 0) _ rfl (by have h9 := B9; rw [List.nil_append, List.append_nil] at h9; exact h9) Tryd.underlying24 rfl (by rw [show (D.map v8).toArray.size = 32 by simp [HDl.out]]; kernel_rfl)) rfl ⟨rfl, O9.below hbel (by omega)⟩
end Go.Proofs.YtfedlgcpgfofjaaDoor.Sha
namespace Go.Proofs.YtfedlgcpgfofjaaDoor.Sha
set_option linter.unusedVariables false
theorem blocks_pre (r a b : List Nat) : ∀ n, 64 * n ≤ a.length → blocks r (a ++ b) n = blocks r a n
  | 0, _ => rfl
  | n + 1, h => by
    rw [blocks, blocks, blocks_pre r a b n (by omega), List.drop_append_of_le_length (by omega), List.take_append_of_le_length (by rw [List.length_drop]; omega)]
/-- What lies behind the whole blocks. -/
def tailOf (a : List Nat) : List Nat := a.drop (64 * (a.length / 64))
theorem tailOf_len (a : List Nat) : (tailOf a).length = a.length % 64 := by unfold tailOf; rw [List.length_drop]; omega
/-- The register behind the whole blocks. -/
def regOf (r a : List Nat) : List Nat := blocks r a (a.length / 64)
theorem regOf_len {r : List Nat} (h : r.length = 8) (a : List Nat) : (regOf r a).length = 8 := blocks_len h _ _
theorem regOf_all {r : List Nat} (h : All 4294967296 r) (a : List Nat) : All 4294967296 (regOf r a) := blocks_all h _ _
theorem regOf_less (r a q : List Nat) (h : a.length % 64 + q.length < 64) : regOf r (a ++ q) = regOf r a := by
  unfold regOf
  rw [List.length_append, show (a.length + q.length) / 64 = a.length / 64 by omega, blocks_pre _ _ _ _ (by omega)]
theorem regOf_full (r a q : List Nat) (h : a.length % 64 + q.length = 64) : regOf r (a ++ q) = turn (regOf r a) (tailOf a ++ q) := by
  unfold regOf tailOf
  rw [List.length_append, show (a.length + q.length) / 64 = a.length / 64 + 1 by omega, blocks, blocks_pre _ _ _ _ (by omega), List.drop_append_of_le_length (by omega), List.take_of_length_le (by rw [List.length_append, List.length_drop]; omega)]
theorem tailOf_less (a q : List Nat) (h : a.length % 64 + q.length < 64) : tailOf (a ++ q) = tailOf a ++ q := by
  unfold tailOf
  rw [List.length_append, show (a.length + q.length) / 64 = a.length / 64 by omega, List.drop_append_of_le_length (by omega)]
theorem tailOf_full (a q : List Nat) (h : a.length % 64 + q.length = 64) : tailOf (a ++ q) = [] := by
  unfold tailOf
  rw [List.length_append, show (a.length + q.length) / 64 = a.length / 64 + 1 by omega]
  exact List.drop_eq_nil_of_le (by rw [List.length_append]; omega)
theorem tailOf_zero (a : List Nat) (h : a.length % 64 = 0) : tailOf a = [] := List.eq_nil_of_length_eq_zero (by rw [tailOf_len, h])
theorem tailOf_all {a : List Nat} (h : All 256 a) : All 256 (tailOf a) := h.drop _
theorem eight_of (l : List Nat) (h : l.length = 8) : ∃ a b c d e f g k : Nat, l = [a, b, c, d, e, f, g, k] := by
  match l, h with
  | [a, b, c, d, e, f, g, k], _ => exact ⟨a, b, c, d, e, f, g, k, rfl⟩
end Go.Proofs.YtfedlgcpgfofjaaDoor.Sha
namespace Go.Proofs.YtfedlgcpgfofjaaDoor.Sha
open Go.RowKit Go.Proofs.YtfedlgcpgfofjaaDoorW.PrintWords
set_option linter.unusedVariables false
/-- The cells of the program's Hash. -/
def hcells (R rest : List Nat) (tk : Nat) : List Value := R.map v32 ++ rest.map v8 ++ [.int .u64 (tk : Int)]
/-- Block g is a Hash: what came in since a register that stands for a multiple of 64 bytes. -/
def HashAt (w : World) (g : Nat) (r : List Nat) (past : Nat) (all : List Nat) : Prop :=
  ∃ rest : List Nat, Blk w g 76 (hcells (regOf r all) rest (past + all.length)).toArray ∧ rest.length = 64 ∧ All 256 rest ∧ rest.take (all.length % 64) = tailOf all
theorem turn8 (r0 r1 r2 r3 r4 r5 r6 r7 : Nat) (p : List Nat) (b o c : Nat) (w : World) (hra : All 4294967296 [r0, r1, r2, r3, r4, r5, r6, r7]) (hp : p.length = 64) (hpa : All 256 p)
    (hbs : Bs w b o p) (hb : b < w.heap.size) (ht : Tab1 w) (h1 : 1 < w.heap.size) :
    Calls Tryd.prog 47 #[.agg #[.int .u32 r0, .int .u32 r1, .int .u32 r2, .int .u32 r3, .int .u32 r4, .int .u32 r5, .int .u32 r6, .int .u32 r7], .slice (some ⟨b, o, none⟩) 64 c] w
      fun e w' => ∃ t0 t1 t2 t3 t4 t5 t6 t7 : Nat, e = .returned (.agg #[.int .u32 t0, .int .u32 t1, .int .u32 t2, .int .u32 t3, .int .u32 t4, .int .u32 t5, .int .u32 t6, .int .u32 t7]) ∧ Hid (turn [r0, r1, r2, r3, r4, r5, r6, r7] p = [t0, t1, t2, t3, t4, t5, t6, t7]) ∧ Below w.heap.size w w' := by
  refine (turn_any [r0, r1, r2, r3, r4, r5, r6, r7] p b o c w rfl hra hp hpa hbs hb ht h1).mono fun e w' ⟨he, hb⟩ => ?_
  obtain ⟨t0, t1, t2, t3, t4, t5, t6, t7, ht⟩ := eight_of _ (turn_len [r0, r1, r2, r3, r4, r5, r6, r7] p)
  rw [ht] at he
  exact ⟨t0, t1, t2, t3, t4, t5, t6, t7, he, ht, hb⟩
theorem bcell {w w1 : World} (hb : Below w.heap.size w w1) : (∀ b o, b < w.heap.size → w1.cell? ⟨b, o, none⟩ = w.cell? ⟨b, o, none⟩) ∧ (∀ b o, b < w.heap.size → w1.frozen? ⟨b, o, none⟩ = w.frozen? ⟨b, o, none⟩) :=
  ⟨fun b o h => hb.cell (p := ⟨b, o, none⟩) h, fun b o h => hb.frozen (p := ⟨b, o, none⟩) h⟩
theorem set_eight_pre (a0 a1 a2 a3 a4 a5 a6 a7 : Value) (l : List Value) (v0 v1 v2 v3 v4 v5 v6 v7 : Value) :
    ((((((((([a0, a1, a2, a3, a4, a5, a6, a7] ++ l).toArray.setIfInBounds 0 v0).setIfInBounds 1 v1).setIfInBounds 2 v2).setIfInBounds 3 v3).setIfInBounds 4 v4).setIfInBounds 5 v5).setIfInBounds 6 v6).setIfInBounds 7 v7) = ([v0, v1, v2, v3, v4, v5, v6, v7] ++ l).toArray := by
  simp only [List.cons_append, List.nil_append, List.setIfInBounds_toArray, List.set_cons_zero, List.set_cons_succ]
theorem Blk.sets8 {w : World} {g t : Nat} {cs : Array Value} (h : Blk w g t cs) (v0 v1 v2 v3 v4 v5 v6 v7 : Value) :
    Blk ((((((((w.setCell ⟨g, 0, none⟩ v0).setCell ⟨g, 1, none⟩ v1).setCell ⟨g, 2, none⟩ v2).setCell ⟨g, 3, none⟩ v3).setCell ⟨g, 4, none⟩ v4).setCell ⟨g, 5, none⟩ v5).setCell ⟨g, 6, none⟩ v6).setCell ⟨g, 7, none⟩ v7) g t ((((((((cs.setIfInBounds 0 v0).setIfInBounds 1 v1).setIfInBounds 2 v2).setIfInBounds 3 v3).setIfInBounds 4 v4).setIfInBounds 5 v5).setIfInBounds 6 v6).setIfInBounds 7 v7) :=
  ((((((((h.set_ 0 v0).set_ 1 v1).set_ 2 v2).set_ 3 v3).set_ 4 v4).set_ 5 v5).set_ 6 v6).set_ 7 v7)
theorem Blk.eight_of {w : World} {g t : Nat} {a0 a1 a2 a3 a4 a5 a6 a7 : Value} {l : List Value} (h : Blk w g t ([a0, a1, a2, a3, a4, a5, a6, a7] ++ l).toArray) (v0 v1 v2 v3 v4 v5 v6 v7 : Value) :
    Blk ((((((((w.setCell ⟨g, 0, none⟩ v0).setCell ⟨g, 1, none⟩ v1).setCell ⟨g, 2, none⟩ v2).setCell ⟨g, 3, none⟩ v3).setCell ⟨g, 4, none⟩ v4).setCell ⟨g, 5, none⟩ v5).setCell ⟨g, 6, none⟩ v6).setCell ⟨g, 7, none⟩ v7) g t ([v0, v1, v2, v3, v4, v5, v6, v7] ++ l).toArray := by
  have h8 := Blk.sets8 h v0 v1 v2 v3 v4 v5 v6 v7
  rw [set_eight_pre] at h8
  exact h8
theorem only_set {a w : World} {g : Nat} (h : a.grownBy w (some g)) (i : Nat) (u : Value) : a.grownBy (w.setCell ⟨g, i, none⟩ u) (some g) :=
  ⟨h.os, h.tape, h.output, by simpa [World.setCell] using h.size, fun k hk hne => (Below.heap_setCell w _ u k (fun e => hne (by rw [e]))).trans (h.block k hk hne)⟩
theorem grown_eight {a w : World} {g : Nat} (h : a.grownBy w (some g)) (v0 v1 v2 v3 v4 v5 v6 v7 : Value) :
    a.grownBy ((((((((w.setCell ⟨g, 0, none⟩ v0).setCell ⟨g, 1, none⟩ v1).setCell ⟨g, 2, none⟩ v2).setCell ⟨g, 3, none⟩ v3).setCell ⟨g, 4, none⟩ v4).setCell ⟨g, 5, none⟩ v5).setCell ⟨g, 6, none⟩ v6).setCell ⟨g, 7, none⟩ v7) (some g) :=
  only_set (only_set (only_set (only_set (only_set (only_set (only_set (only_set h 0 v0) 1 v1) 2 v2) 3 v3) 4 v4) 5 v5) 6 v6) 7 v7
theorem only_below {a w w' : World} {g : Nat} (h : a.grownBy w (some g)) (hb : Below w.heap.size w w') : a.grownBy w' (some g) :=
  ⟨hb.os.trans h.os, hb.tape.trans h.tape, hb.output.trans h.output, Nat.le_trans h.size hb.size, fun k hk hne => (hb.block k (Nat.lt_of_lt_of_le hk h.size)).trans (h.block k hk hne)⟩
theorem only_only {a w w' : World} {g : Nat} (h : a.grownBy w (some g)) (O : Only g w w') : a.grownBy w' (some g) :=
  ⟨O.os.trans h.os, O.tape.trans h.tape, O.output.trans h.output, by rw [O.size]; exact h.size, fun k hk hne => (O.block k (fun e => hne (by rw [e]))).trans (h.block k hk hne)⟩
theorem only_drewN {a w : World} {row : Option Nat} (h : a.grownBy w row) (n : Nat) : a.grownBy (w.drewN n) row := ⟨h.os, h.tape, h.output, h.size, h.block⟩
theorem Bs.grown {w w' : World} {b o g : Nat} {p : List Nat} (h : Bs w b o p) (hb : w.grownBy w' (some g)) (hlt : b < w.heap.size) (hne : b ≠ g) : Bs w' b o p :=
  fun j hj => (World.cell?_of_block (a := ⟨b, o + j, none⟩) (hb.block b hlt (fun e => hne (by injection e)))).trans (h j hj)
theorem Tab1.grown {w w' : World} {g : Nat} (h : Tab1 w) (hb : w.grownBy w' (some g)) (h1 : 1 < w.heap.size) (hne : 1 ≠ g) : Tab1 w' :=
  fun j hj => (World.cell?_of_block (a := ⟨1, j, none⟩) (hb.block 1 h1 (fun e => hne (by injection e)))).trans (h j hj)
/-- What is left of a slice: k bytes are gone. -/
def Rest (v : Value) (b o k n : Nat) : Prop := ∃ A c, v = .slice A (n - k) c ∧ (k < n → A = some ⟨b, o + k, none⟩) ∧ n - k ≤ c
theorem Rest.cut {A : Option Addr} {b o k n c m : Nat} (h : k < n → A = some ⟨b, o + k, none⟩) (hc : n - k ≤ c) (hm : m ≤ n - k) (h0 : 0 < m) :
    Rest (.slice (if c = m then A else A.map (·.add m)) (n - k - m) (c - m)) b o (k + m) n := by
  refine ⟨_, _, by rw [Nat.sub_sub], fun hk => ?_, by omega⟩
  rw [if_neg (by omega), h (by omega)]
  simp [Addr.add_mid, Nat.add_assoc]
theorem hcells_set72 (T rest : List Nat) (tk tk' : Nat) (hT : T.length = 8) (hr : rest.length = 64) (x : Int) (hx : x = (tk' : Int)) : (hcells T rest tk).toArray.setIfInBounds 72 (.int .u64 x) = (hcells T rest tk').toArray := by
  subst hx
  unfold hcells
  rw [List.setIfInBounds_toArray, List.set_append_right _ _ (by simp [hT, hr])]
  simp [hT, hr]
theorem blk_turned {w1 : World} {g : Nat} {r0 r1 r2 r3 r4 r5 r6 r7 t0 t1 t2 t3 t4 t5 t6 t7 tk : Nat} {rest : List Nat} (h : Blk w1 g 76 (hcells [r0, r1, r2, r3, r4, r5, r6, r7] rest tk).toArray) :
    Blk ((((((((w1.setCell ⟨g, 0, none⟩ (.int .u32 (t0 : Int))).setCell ⟨g, 1, none⟩ (.int .u32 (t1 : Int))).setCell ⟨g, 2, none⟩ (.int .u32 (t2 : Int))).setCell ⟨g, 3, none⟩ (.int .u32 (t3 : Int))).setCell ⟨g, 4, none⟩ (.int .u32 (t4 : Int))).setCell ⟨g, 5, none⟩ (.int .u32 (t5 : Int))).setCell ⟨g, 6, none⟩ (.int .u32 (t6 : Int))).setCell ⟨g, 7, none⟩ (.int .u32 (t7 : Int))) g 76 (hcells [t0, t1, t2, t3, t4, t5, t6, t7] rest tk).toArray := by
  have e : ∀ a b c d e f g k : Nat, hcells [a, b, c, d, e, f, g, k] rest tk = [.int .u32 (a : Int), .int .u32 (b : Int), .int .u32 (c : Int), .int .u32 (d : Int), .int .u32 (e : Int), .int .u32 (f : Int), .int .u32 (g : Int), .int .u32 (k : Int)] ++ (rest.map v8 ++ [.int .u64 (tk : Int)]) := fun a b c d e f g k => by
    unfold hcells
    rw [List.append_assoc]
    rfl
  rw [e] at h ⊢
  exact Blk.eight_of h _ _ _ _ _ _ _ _
theorem below_of_drew {w w' : World} (h : Below w.drew.heap.size w.drew w') : Below w.heap.size w w' := ⟨h.os, h.tape, h.output, h.size, h.block⟩
theorem take_more (p : List Nat) (k m : Nat) : p.take (k + m) = p.take k ++ (p.drop k).take m := List.take_add
theorem hcells_cut (R rest : List Nat) (tk a m : Nat) : hcells R rest tk = (R.map v32 ++ (rest.take a).map v8) ++ ((rest.drop a).take m).map v8 ++ ((rest.drop (a + m)).map v8 ++ [.int .u64 (tk : Int)]) := by
  unfold hcells
  rw [List.append_assoc, List.append_assoc, List.append_assoc]
  congr 1
  rw [← List.append_assoc ((List.take m (List.drop a rest)).map v8), ← List.append_assoc ((List.take a rest).map v8), ← List.map_append, ← List.map_append, ← List.drop_drop, List.take_append_drop, List.take_append_drop]
theorem hcells_72 (R rest : List Nat) (tk : Nat) (hR : R.length = 8) (hr : rest.length = 64) : (hcells R rest tk).toArray[72]? = some (.int .u64 (tk : Int)) := by
  rw [hcells, List.getElem?_toArray, List.getElem?_append_right (by simp [hR, hr])]
  simp [hR, hr]
theorem hcells_low (r0 r1 r2 r3 r4 r5 r6 r7 : Nat) (rest : List Nat) (tk i : Nat) (v : Value) (h : ([r0, r1, r2, r3, r4, r5, r6, r7].map v32)[i]? = some v) : (hcells [r0, r1, r2, r3, r4, r5, r6, r7] rest tk).toArray[i]? = some v := by
  have hi := (List.getElem?_eq_some_iff.1 h).1
  rw [hcells, List.getElem?_toArray, List.append_assoc, List.getElem?_append_left hi]
  exact h
theorem bs_hcells {w : World} {g : Nat} {R rest : List Nat} {tk : Nat} (hR : R.length = 8) (hB : Blk w g 76 (hcells R rest tk).toArray) : Bs w g 8 rest := by
  intro j hj
  rw [hB.cell, hcells, List.getElem?_toArray, List.append_assoc, List.getElem?_append_right (by rw [List.length_map, hR]; omega), List.length_map, hR, Nat.add_sub_cancel_left, List.getElem?_append_left (by rw [List.length_map]; exact hj), List.getElem?_map, List.getElem?_eq_getElem hj,
    List.getD_eq_getElem?_getD, List.getElem?_eq_getElem hj]
  rfl
theorem hcells_put (R rest q : List Nat) (tk a m : Nat) : (R.map v32 ++ (rest.take a).map v8) ++ q.map v8 ++ ((rest.drop (a + m)).map v8 ++ [.int .u64 (tk : Int)]) = hcells R (rest.take a ++ q ++ rest.drop (a + m)) tk := by
  unfold hcells
  simp only [List.map_append, List.append_assoc]
section
variable {P : Program} {w : World} {ops : Array Oper} {rest : List Oper} {o : Oper} {a : Act} {Q : Exit → Act → World → Prop}
theorem wpl_copy_n (hgd : o.guard = none) (d s : Operand) (dT sT : TypeId) (ho : o.op = .call { callee := .builtin .copy, args := #[d, s], argTypes := #[dT, sT] }) (elem : TypeId)
    (hu : P.underlying dT = some (.slice elem)) (hsz : (P.info? elem).map (·.size) = some 1) (dp sp : Option Addr) (dLen dCap sLen sCap : Nat) (hd : a.eval d = .slice dp dLen dCap) (hs : a.eval s = .slice sp sLen sCap)
    (g off : Nat) (t : TypeId) (pre mid post new : List Value) (hB : Blk w g t (pre ++ mid ++ post).toArray) (hoff : pre.length = off) (hn : new.length = mid.length) (hmin : new.length = Nat.min sLen dLen)
    (hpos : 0 < new.length → dp = some ⟨g, off, none⟩ ∧ ∃ ad, sp = some ad ∧ ∀ j v, new[j]? = some v → w.cell? (ad.add j) = some v) (h1 : ∀ v ∈ new, v.oneCell' = true) (n : Nat) (hln : new.length = n)
    (h : ∀ w', Blk w' g t (pre ++ new ++ post).toArray → Only g w w' → wpList P ops Q rest (a.put o.dst (.int .i64 (n : Int))) w') : wpList P ops Q (o :: rest) a w := by
  subst hln
  exact wpl_copy hgd d s dT sT ho elem hu hsz dp sp dLen dCap sLen sCap hd hs g off t pre mid post new hB hoff hn hmin hpos h1 h
end
theorem bs_cells {w : World} {b o : Nat} {p : List Nat} (h : Bs w b o p) : ∀ j v, (p.map v8)[j]? = some v → w.cell? ((Addr.mk b o none).add j) = some v := by
  intro j v hv
  rw [List.getElem?_map] at hv
  cases e : p[j]? with
  | none => rw [e] at hv; cases hv
  | some x =>
    rw [e] at hv
    injection hv with hv
    subst hv
    have hj := (List.getElem?_eq_some_iff.1 e).1
    rw [Addr.add_mid, h j hj, List.getD_eq_getElem?_getD, e]
    rfl
theorem rest_put_len (rest q : List Nat) (a m : Nat) (hr : rest.length = 64) (hq : q.length = m) (h : a + m ≤ 64) : (rest.take a ++ q ++ rest.drop (a + m)).length = 64 := by
  rw [List.length_append, List.length_append, List.length_take, List.length_drop]; omega
theorem rest_put_all {rest q : List Nat} (hr : All 256 rest) (hq : All 256 q) (a m : Nat) : All 256 (rest.take a ++ q ++ rest.drop (a + m)) := ((hr.take a).app hq).app (hr.drop _)
theorem rest_put_take (rest q tl : List Nat) (a m : Nat) (hr : rest.length = 64) (hq : q.length = m) (h : a + m ≤ 64) (ht : rest.take a = tl) : (rest.take a ++ q ++ rest.drop (a + m)).take (a + m) = tl ++ q := by
  rw [List.take_left' (by rw [List.length_append, List.length_take]; omega), ht]
theorem hash_less {w2 : World} {g past at_ mn tk : Nat} {r cur q rest : List Nat} (hat : at_ = cur.length % 64) (htk : tk = past + cur.length) (hq : q.length = mn) (hn : at_ + mn < 64) (hr : r.length = 8)
    (hrl : rest.length = 64) (hra : All 256 rest) (hqa : All 256 q) (htl : rest.take at_ = tailOf cur) (hB : Blk w2 g 76 (hcells (regOf r cur) (rest.take at_ ++ q ++ rest.drop (at_ + mn)) tk).toArray) :
    HashAt (w2.setCell ⟨g, 72, none⟩ (.int .u64 ((tk : Int) + (mn : Int)))) g r past (cur ++ q) := by
  have hl : (cur ++ q).length = cur.length + mn := by rw [List.length_append, hq]
  have h1 := rest_put_len rest q at_ mn hrl hq (by omega)
  have h := hB.set_ 72 (.int .u64 ((tk : Int) + (mn : Int)))
  rw [hcells_set72 _ _ _ (past + (cur ++ q).length) (regOf_len hr cur) h1 _ (by rw [hl, htk]; omega)] at h
  refine ⟨_, ?_, h1, rest_put_all hra hqa at_ mn, ?_⟩
  · rw [regOf_less r cur q (by omega)]
    exact h
  · rw [hl, show (cur.length + mn) % 64 = at_ + mn by omega, rest_put_take rest q _ at_ mn hrl hq (by omega) htl, tailOf_less cur q (by omega)]
theorem Rest.mk_ {A : Option Addr} {b o k n c x : Nat} (hx : x = n - k) (h : k < n → A = some ⟨b, o + k, none⟩) (hc : n - k ≤ c) : Rest (.slice A x c) b o k n := ⟨A, c, by rw [hx], h, hc⟩
set_option maxRecDepth 100000 in
set_option maxHeartbeats 800000 in
theorem write_any (g past : Nat) (r all p : List Nat) (b o c : Nat) (w : World) (hr : r.length = 8) (hra : All 4294967296 r) (hpast : past % 64 = 0) (hmax : past + all.length + p.length ≤ 2305843009213693952)
    (hH : HashAt w g r past all) (hall : All 256 all) (hp0 : 0 < p.length) (hpc : p.length ≤ c) (hpa : All 256 p) (hbs : Bs w b o p) (hb : b < w.heap.size) (hbg : b ≠ g) (ht : Tab1 w) (h1 : 1 < w.heap.size) (h1g : 1 ≠ g) :
    Calls Tryd.prog 18 #[.pointer (some ⟨g, 0, none⟩), .slice (some ⟨b, o, none⟩) p.length c] w fun e w' => e = .returned (.tuple #[]) ∧ HashAt w' g r past (all ++ p) ∧ w.grownBy w' (some g) := by
  obtain ⟨n, hn⟩ : ∃ n, n = p.length := ⟨_, rfl⟩
  rw [← hn] at hmax hp0 hpc
  rw [← hn]
  have HN := Lib.hid hn; have HR := Lib.hid hr; have HP := Lib.hid hpast; have HBS := Lib.hid hbs; have HT := Lib.hid ht; have HH := Lib.hid hH
  clear hn hr hpast hbs ht hH
  go_enter Tryd.func18, Tryd.ntmps18
  go_wp2
  go_loopw [1] (fun v wr => ∃ k : Nat, k ≤ n ∧ Rest v b o k n ∧ HashAt wr g r past (all ++ p.take k) ∧ w.grownBy wr (some g)) (fun v _ => slen v)
  case atStart => exact ⟨0, by omega, ⟨_, _, rfl, fun _ => rfl, hpc⟩, by rw [List.take_zero, List.append_nil]; exact HH.out, World.grownBy.refl w _⟩
  case round =>
    obtain ⟨k, hk, ⟨A, cc, rfl, hA, hcc⟩, ⟨rest, hB, hrl, hrest, htl⟩, hG⟩ := hrel
    obtain ⟨cur, hcur⟩ : ∃ cur, cur = all ++ p.take k := ⟨_, rfl⟩
    have hcl : cur.length = all.length + k := by rw [hcur, List.length_append, List.length_take, ← HN.out]; omega
    have hca : All 256 cur := by rw [hcur]; exact hall.app (hpa.take k)
    rw [← hcur] at hB htl
    obtain ⟨m, hm⟩ : ∃ m, m = n - k := ⟨_, rfl⟩
    obtain ⟨at_, hat⟩ : ∃ at_, at_ = cur.length % 64 := ⟨_, rfl⟩
    obtain ⟨tk, htk⟩ : ∃ tk, tk = past + cur.length := ⟨_, rfl⟩
    rw [← hm] at hcc
    rw [← hm]
    rw [← hat] at htl
    rw [← htk] at hB
    have hat2 : tk % 64 = at_ := by rw [htk, hat]; have := HP.out; omega
    have hat64 : at_ < 64 := by omega
    have htk62 : tk ≤ 2305843009213693952 := by omega
    have HC := Lib.hid hcur; have HCL := Lib.hid hcl; have HM := Lib.hid hm; have HAT := Lib.hid hat; have HTK := Lib.hid htk
    obtain ⟨R, hR⟩ : ∃ R, R = regOf r cur := ⟨_, rfl⟩
    have hRl : R.length = 8 := by rw [hR]; exact regOf_len HR.out cur
    have hRa : All 4294967296 R := by rw [hR]; exact regOf_all hra cur
    rw [← hR] at hB
    have HRR := Lib.hid hR
    clear hR
    obtain ⟨r0, r1, r2, r3, r4, r5, r6, r7, hR8⟩ := eight_of R hRl
    subst hR8
    clear hRl
    have gc : ∀ i, i < 8 → ∃ x : Nat, x = [r0, r1, r2, r3, r4, r5, r6, r7].getD i 0 ∧ wr.cell? ⟨g, i, none⟩ = some (.int .u32 (x : Int)) := fun i hi => ⟨_, rfl, by
      rw [hB.cell, hcells, List.getElem?_toArray, List.append_assoc, List.getElem?_append_left (by simpa using hi), List.getElem?_map, List.getElem?_eq_getElem (by simpa using hi), List.getD_eq_getElem?_getD, List.getElem?_eq_getElem (by simpa using hi)]
      rfl⟩
    have c0 : wr.cell? ⟨g, 0, none⟩ = some (.int .u32 (r0 : Int)) := by obtain ⟨x, rfl, h⟩ := gc 0 (by omega); exact h
    have c1 : wr.cell? ⟨g, 1, none⟩ = some (.int .u32 (r1 : Int)) := by obtain ⟨x, rfl, h⟩ := gc 1 (by omega); exact h
    have c2 : wr.cell? ⟨g, 2, none⟩ = some (.int .u32 (r2 : Int)) := by obtain ⟨x, rfl, h⟩ := gc 2 (by omega); exact h
    have c3 : wr.cell? ⟨g, 3, none⟩ = some (.int .u32 (r3 : Int)) := by obtain ⟨x, rfl, h⟩ := gc 3 (by omega); exact h
    have c4 : wr.cell? ⟨g, 4, none⟩ = some (.int .u32 (r4 : Int)) := by obtain ⟨x, rfl, h⟩ := gc 4 (by omega); exact h
    have c5 : wr.cell? ⟨g, 5, none⟩ = some (.int .u32 (r5 : Int)) := by obtain ⟨x, rfl, h⟩ := gc 5 (by omega); exact h
    have c6 : wr.cell? ⟨g, 6, none⟩ = some (.int .u32 (r6 : Int)) := by obtain ⟨x, rfl, h⟩ := gc 6 (by omega); exact h
    have c7 : wr.cell? ⟨g, 7, none⟩ = some (.int .u32 (r7 : Int)) := by obtain ⟨x, rfl, h⟩ := gc 7 (by omega); exact h
    have c72 : wr.cell? ⟨g, 72, none⟩ = some (.int .u64 (tk : Int)) := by
      rw [hB.cell, hcells, List.getElem?_toArray, List.getElem?_append_right (by simp [hrl])]
      simp [hrl]
    have f0 := hB.frozen 0; have f1 := hB.frozen 1; have f2 := hB.frozen 2; have f3 := hB.frozen 3
    have f4 := hB.frozen 4; have f5 := hB.frozen 5; have f6 := hB.frozen 6; have f7 := hB.frozen 7; have f72 := hB.frozen 72
    have hglt := hB.lt
    have HB := Lib.hid hB; have HRL := Lib.hid hrl; have HTL := Lib.hid htl; have HAT2 := Lib.hid hat2
    clear gc hB hrl htl hcur hcl hm hat htk hat2
    have e1 : ((tk : Int) % 64) = (at_ : Int) := by have := HAT2.out; omega
    have i0 : (0 : Int) ≤ (tk : Int) := by omega
    have i1 : (tk : Int) ≤ 2305843009213693952 := by omega
    have i2 : (0 : Int) ≤ (at_ : Int) := by omega
    have i3 : (at_ : Int) < 64 := by omega
    by_cases hm0 : 0 < m
    · have hAe : A = some ⟨b, o + k, none⟩ := hA (by have := HM.out; omega)
      subst hAe
      clear hA
      have im : (0 : Int) < (m : Int) := by omega
      by_cases ha : at_ = 0 ∧ 64 ≤ m
      · (
          obtain ⟨ha0, hm64⟩ := ha
          have t1 : ((at_ : Int) == 0) = true := by simp [ha0]
          have t2 : (m : Int) ≥ 64 := by omega
          have t3 : decide ((64 : Int) ≤ (m : Int)) = true := decide_eq_true t2
          have hcc2 : cc = 64 ∨ 64 < cc := by omega
          rcases hcc2 with rfl | hcc2
          · obtain rfl : m = 64 := by omega
            clear im t2 t3 hm0
            go_wp2
            have hq64 : ((p.drop k).take 64).length = 64 := by rw [List.length_take, List.length_drop, ← HN.out]; have := HM.out; omega
            have hqb : Bs wr b (o + k) ((p.drop k).take 64) := (HBS.out.grown hG hb hbg).sub k 64 (by rw [← HN.out]; have := HM.out; omega)
            have hqa : All 256 ((p.drop k).take 64) := (hpa.drop k).take 64
            obtain ⟨q, hq⟩ : ∃ q, q = (p.drop k).take 64 := ⟨_, rfl⟩
            rw [← hq] at hq64 hqb hqa
            have HQ := Lib.hid hq; have HQ64 := Lib.hid hq64; have HQB := Lib.hid hqb
            clear hq hq64 hqb
            have hcall : Calls Tryd.prog 47 #[.agg #[.int .u32 r0, .int .u32 r1, .int .u32 r2, .int .u32 r3, .int .u32 r4, .int .u32 r5, .int .u32 r6, .int .u32 r7], .slice (some ⟨b, o + k, none⟩) 64 64] wr.drew _ := turn8 r0 r1 r2 r3 r4 r5 r6 r7 q b (o + k) 64 wr.drew hRa HQ64.out hqa HQB.out (Nat.lt_of_lt_of_le hb hG.size) (show Tab1 wr from HT.out.grown hG h1 h1g) (Nat.lt_of_lt_of_le h1 hG.size)
            go_region_with (go_at_call 47; (with_reducible refine hcall.mono ?_); rintro e w1 ⟨t0, t1, t2, t3, t4, t5, t6, t7, rfl, hT, hb1⟩; replace hb1 := below_of_drew hb1; obtain ⟨hc1, hf1⟩ := bcell hb1; have k0 := (hc1 g 0 hglt).trans c0; have l0 := (hf1 g 0 hglt).trans f0; have k1 := (hc1 g 1 hglt).trans c1; have l1 := (hf1 g 1 hglt).trans f1; have k2 := (hc1 g 2 hglt).trans c2; have l2 := (hf1 g 2 hglt).trans f2; have k3 := (hc1 g 3 hglt).trans c3; have l3 := (hf1 g 3 hglt).trans f3; have k4 := (hc1 g 4 hglt).trans c4; have l4 := (hf1 g 4 hglt).trans f4; have k5 := (hc1 g 5 hglt).trans c5; have l5 := (hf1 g 5 hglt).trans f5; have k6 := (hc1 g 6 hglt).trans c6; have l6 := (hf1 g 6 hglt).trans f6; have k7 := (hc1 g 7 hglt).trans c7; have l7 := (hf1 g 7 hglt).trans f7; have k72 := (hc1 g 72 hglt).trans c72; have l72 := (hf1 g 72 hglt).trans f72; clear hc1 hf1)
            all_goals go_wp2
            all_goals
              refine ⟨⟨k + 64, ?_, Rest.mk_ (by have := HM.out; omega) (fun hlt => by first | (exfalso; have := HM.out; omega) | rw [Nat.add_assoc]) (by have := HM.out; omega), ?_, ?_⟩, ?_⟩
            all_goals first
              | (have := HM.out; omega)
              | exact only_set (grown_eight (only_below hG hb1) _ _ _ _ _ _ _ _) _ _
              | (simp only [slen]; omega)
              | (rw [take_more, ← List.append_assoc, ← HC.out, ← HQ.out]
                 have hl : (cur ++ q).length = cur.length + 64 := by rw [List.length_append, HQ64.out]
                 have ha1 : cur.length % 64 = 0 := by rw [← HAT.out]; exact ha0
                 have hB1 := (blk_turned (t0 := t0) (t1 := t1) (t2 := t2) (t3 := t3) (t4 := t4) (t5 := t5) (t6 := t6) (t7 := t7) (Blk.below HB.out hb1 hglt)).set_ 72 (.int .u64 ((tk : Int) + 64))
                 rw [hcells_set72 _ _ _ (past + (cur ++ q).length) rfl HRL.out _ (by rw [hl, HTK.out]; omega)] at hB1
                 refine ⟨rest, ?_, HRL.out, hrest, ?_⟩
                 · rw [regOf_full r cur q (by rw [ha1, HQ64.out]), tailOf_zero cur ha1, List.nil_append, ← HRR.out, hT.out]
                   exact hB1
                 · rw [tailOf_full cur q (by rw [ha1, HQ64.out]), hl, show (cur.length + 64) % 64 = 0 by omega, List.take_zero])
          · have hcc3 : (64 : Int) < (cc : Int) := by omega
            have hcc4 : ¬ (cc = 64) := by omega
            go_wp2
            have hq64 : ((p.drop k).take 64).length = 64 := by rw [List.length_take, List.length_drop, ← HN.out]; have := HM.out; omega
            have hqb : Bs wr b (o + k) ((p.drop k).take 64) := (HBS.out.grown hG hb hbg).sub k 64 (by rw [← HN.out]; have := HM.out; omega)
            have hqa : All 256 ((p.drop k).take 64) := (hpa.drop k).take 64
            obtain ⟨q, hq⟩ : ∃ q, q = (p.drop k).take 64 := ⟨_, rfl⟩
            rw [← hq] at hq64 hqb hqa
            have HQ := Lib.hid hq; have HQ64 := Lib.hid hq64; have HQB := Lib.hid hqb
            clear hq hq64 hqb
            have hcall : Calls Tryd.prog 47 #[.agg #[.int .u32 r0, .int .u32 r1, .int .u32 r2, .int .u32 r3, .int .u32 r4, .int .u32 r5, .int .u32 r6, .int .u32 r7], .slice (some ⟨b, o + k, none⟩) 64 64] wr.drew _ := turn8 r0 r1 r2 r3 r4 r5 r6 r7 q b (o + k) 64 wr.drew hRa HQ64.out hqa HQB.out (Nat.lt_of_lt_of_le hb hG.size) (show Tab1 wr from HT.out.grown hG h1 h1g) (Nat.lt_of_lt_of_le h1 hG.size)
            go_region_with (go_at_call 47; (with_reducible refine hcall.mono ?_); rintro e w1 ⟨t0, t1, t2, t3, t4, t5, t6, t7, rfl, hT, hb1⟩; replace hb1 := below_of_drew hb1; obtain ⟨hc1, hf1⟩ := bcell hb1; have k0 := (hc1 g 0 hglt).trans c0; have l0 := (hf1 g 0 hglt).trans f0; have k1 := (hc1 g 1 hglt).trans c1; have l1 := (hf1 g 1 hglt).trans f1; have k2 := (hc1 g 2 hglt).trans c2; have l2 := (hf1 g 2 hglt).trans f2; have k3 := (hc1 g 3 hglt).trans c3; have l3 := (hf1 g 3 hglt).trans f3; have k4 := (hc1 g 4 hglt).trans c4; have l4 := (hf1 g 4 hglt).trans f4; have k5 := (hc1 g 5 hglt).trans c5; have l5 := (hf1 g 5 hglt).trans f5; have k6 := (hc1 g 6 hglt).trans c6; have l6 := (hf1 g 6 hglt).trans f6; have k7 := (hc1 g 7 hglt).trans c7; have l7 := (hf1 g 7 hglt).trans f7; have k72 := (hc1 g 72 hglt).trans c72; have l72 := (hf1 g 72 hglt).trans f72; clear hc1 hf1)
            all_goals go_wp2
            all_goals
              refine ⟨⟨k + 64, ?_, Rest.mk_ (by have := HM.out; omega) (fun hlt => by first | (exfalso; have := HM.out; omega) | rw [Nat.add_assoc]) (by have := HM.out; omega), ?_, ?_⟩, ?_⟩
            all_goals first
              | (have := HM.out; omega)
              | exact only_set (grown_eight (only_below hG hb1) _ _ _ _ _ _ _ _) _ _
              | (simp only [slen]; omega)
              | (rw [take_more, ← List.append_assoc, ← HC.out, ← HQ.out]
                 have hl : (cur ++ q).length = cur.length + 64 := by rw [List.length_append, HQ64.out]
                 have ha1 : cur.length % 64 = 0 := by rw [← HAT.out]; exact ha0
                 have hB1 := (blk_turned (t0 := t0) (t1 := t1) (t2 := t2) (t3 := t3) (t4 := t4) (t5 := t5) (t6 := t6) (t7 := t7) (Blk.below HB.out hb1 hglt)).set_ 72 (.int .u64 ((tk : Int) + 64))
                 rw [hcells_set72 _ _ _ (past + (cur ++ q).length) rfl HRL.out _ (by rw [hl, HTK.out]; omega)] at hB1
                 refine ⟨rest, ?_, HRL.out, hrest, ?_⟩
                 · rw [regOf_full r cur q (by rw [ha1, HQ64.out]), tailOf_zero cur ha1, List.nil_append, ← HRR.out, hT.out]
                   exact hB1
                 · rw [tailOf_full cur q (by rw [ha1, HQ64.out]), hl, show (cur.length + 64) % 64 = 0 by omega, List.take_zero]))
      · obtain ⟨mn, hmn⟩ : ∃ mn, mn = min m (64 - at_) := ⟨_, rfl⟩
        have hmn1 : mn ≤ m := by omega
        have hmn2 : at_ + mn ≤ 64 := by omega
        have hmn3 : 0 < mn := by omega
        have hcut := hcells_cut [r0, r1, r2, r3, r4, r5, r6, r7] rest tk at_ mn
        have hB2 : Hid (Blk wr g 76 (([r0, r1, r2, r3, r4, r5, r6, r7].map v32 ++ (rest.take at_).map v8) ++ ((rest.drop at_).take mn).map v8 ++ ((rest.drop (at_ + mn)).map v8 ++ [Value.int .u64 (tk : Int)])).toArray) := by
          have h := HB.out
          rw [hcut] at h
          exact h
        obtain ⟨q, hq⟩ : ∃ q, q = (p.drop k).take mn := ⟨_, rfl⟩
        have hql : q.length = mn := by rw [hq, List.length_take, List.length_drop, ← HN.out]; have := HM.out; omega
        have hqb : Bs wr b (o + k) q := by rw [hq]; exact (HBS.out.grown hG hb hbg).sub k mn (by rw [← HN.out]; have := HM.out; omega)
        have hqa : All 256 q := by rw [hq]; exact (hpa.drop k).take mn
        have HQ := Lib.hid hq; have HQL := Lib.hid hql; have HQB := Lib.hid hqb; have HMN := Lib.hid hmn
        have i4 : (0 : Int) ≤ (mn : Int) := by omega
        have i5 : (mn : Int) ≤ (m : Int) := by omega
        have i6 : (mn : Int) ≤ (cc : Int) := by omega
        have i7 : (at_ : Int) + (mn : Int) ≤ 64 := by omega
        have i8 : (at_ : Int) ≤ 64 := by omega
        have n64 : ¬ (64 = at_) := by omega
        have n65 : ¬ (at_ = 64) := by omega
        have hz : (at_ = 0 ∧ m < 64) ∨ at_ ≠ 0 := by omega
        clear hcut hq hql hqb hmn ha
        by_cases hfull : at_ + mn = 64
        · (
          have tf : ((at_ : Int) + (mn : Int) == 64) = true := by simp; omega
          have hz0 : at_ ≠ 0 := by omega
          have t1 : ((at_ : Int) == 0) = false := by simp; omega
          rcases (show mn = cc ∨ cc ≠ mn by omega) with rfl | hcm
          all_goals (
            go_wp2_with (
              refine wpl_copy_n rfl _ _ _ _ rfl 5 Tryd.underlying22 (by kernel_rfl) _ _ _ _ _ _ rfl rfl g (8 + at_) 76 _ _ _ (q.map v8) hB2.out
                (by simp [HRL.out]; omega) (by simp [HQL.out, HRL.out]; omega) (by rw [List.length_map, HQL.out]; exact HMN.out)
                (fun _ => ⟨rfl, _, rfl, bs_cells HQB.out⟩) (v8_one q) mn (by rw [List.length_map, HQL.out]) ?_
              intro w2 B2 O2
              rw [hcells_put] at B2
              have k72 : w2.cell? ⟨g, 72, none⟩ = some (.int .u64 (tk : Int)) := by
                rw [B2.cell]
                exact hcells_72 _ _ _ rfl (by simp [HRL.out, HQL.out]; omega)
              have l72 := B2.frozen 72
              have k0 : w2.cell? ⟨g, 0, none⟩ = some (.int .u32 (r0 : Int)) := by rw [B2.cell]; exact hcells_low _ _ _ _ _ _ _ _ _ _ 0 _ rfl
              have l0 := B2.frozen 0
              have k1 : w2.cell? ⟨g, 1, none⟩ = some (.int .u32 (r1 : Int)) := by rw [B2.cell]; exact hcells_low _ _ _ _ _ _ _ _ _ _ 1 _ rfl
              have l1 := B2.frozen 1
              have k2 : w2.cell? ⟨g, 2, none⟩ = some (.int .u32 (r2 : Int)) := by rw [B2.cell]; exact hcells_low _ _ _ _ _ _ _ _ _ _ 2 _ rfl
              have l2 := B2.frozen 2
              have k3 : w2.cell? ⟨g, 3, none⟩ = some (.int .u32 (r3 : Int)) := by rw [B2.cell]; exact hcells_low _ _ _ _ _ _ _ _ _ _ 3 _ rfl
              have l3 := B2.frozen 3
              have k4 : w2.cell? ⟨g, 4, none⟩ = some (.int .u32 (r4 : Int)) := by rw [B2.cell]; exact hcells_low _ _ _ _ _ _ _ _ _ _ 4 _ rfl
              have l4 := B2.frozen 4
              have k5 : w2.cell? ⟨g, 5, none⟩ = some (.int .u32 (r5 : Int)) := by rw [B2.cell]; exact hcells_low _ _ _ _ _ _ _ _ _ _ 5 _ rfl
              have l5 := B2.frozen 5
              have k6 : w2.cell? ⟨g, 6, none⟩ = some (.int .u32 (r6 : Int)) := by rw [B2.cell]; exact hcells_low _ _ _ _ _ _ _ _ _ _ 6 _ rfl
              have l6 := B2.frozen 6
              have k7 : w2.cell? ⟨g, 7, none⟩ = some (.int .u32 (r7 : Int)) := by rw [B2.cell]; exact hcells_low _ _ _ _ _ _ _ _ _ _ 7 _ rfl
              have l7 := B2.frozen 7)

            obtain ⟨RR, hRR⟩ : ∃ RR, RR = rest.take at_ ++ q ++ rest.drop (at_ + mn) := ⟨_, rfl⟩
            have hRRl : RR.length = 64 := by rw [hRR]; exact rest_put_len rest q at_ mn HRL.out HQL.out hmn2
            have hRRa : All 256 RR := by rw [hRR]; exact rest_put_all hrest hqa at_ mn
            have hRRt : RR = tailOf cur ++ q := by
              have h := rest_put_take rest q (tailOf cur) at_ mn HRL.out HQL.out hmn2 HTL.out
              rw [← hRR, hfull, List.take_of_length_le (by omega)] at h
              exact h
            rw [← hRR] at B2
            have B3 := B2.set_ 72 (.int .u64 ((tk : Int) + (mn : Int)))
            rw [hcells_set72 _ _ _ (tk + mn) rfl hRRl _ (by omega)] at B3
            have hbsR : Bs (w2.setCell ⟨g, 72, none⟩ (.int .u64 ((tk : Int) + (mn : Int)))) g 8 RR := bs_hcells rfl B3
            have HRRl := Lib.hid hRRl; have HRRt := Lib.hid hRRt; have HB3 := Lib.hid B3; have HBR := Lib.hid hbsR
            have hG3 := only_set (only_only hG O2) 72 (.int .u64 ((tk : Int) + (mn : Int)))
            have hcall : Calls Tryd.prog 47 #[.agg #[.int .u32 r0, .int .u32 r1, .int .u32 r2, .int .u32 r3, .int .u32 r4, .int .u32 r5, .int .u32 r6, .int .u32 r7], .slice (some ⟨g, 8, none⟩) 64 64] (w2.setCell ⟨g, 72, none⟩ (.int .u64 ((tk : Int) + (mn : Int)))).drew _ :=
              turn8 r0 r1 r2 r3 r4 r5 r6 r7 RR g 8 64 (w2.setCell ⟨g, 72, none⟩ (.int .u64 ((tk : Int) + (mn : Int)))).drew hRa HRRl.out hRRa HBR.out B3.lt (show Tab1 (w2.setCell ⟨g, 72, none⟩ (.int .u64 ((tk : Int) + (mn : Int)))) from HT.out.grown hG3 h1 h1g) (Nat.lt_of_lt_of_le h1 hG3.size)
            clear hRR hRRl hRRt B3 hbsR
            have hg3 := HB3.out.lt
            obtain ⟨w3, hw3⟩ : ∃ w3, w3 = w2.setCell ⟨g, 72, none⟩ (.int .u64 ((tk : Int) + (mn : Int))) := ⟨_, rfl⟩
            have HW3 := Lib.hid hw3
            have x0 : w3.cell? ⟨g, 0, none⟩ = some (.int .u32 (r0 : Int)) := by rw [hw3, HB3.out.cell]; exact hcells_low _ _ _ _ _ _ _ _ _ _ 0 _ rfl
            have y0 : w3.frozen? ⟨g, 0, none⟩ = false := by rw [hw3]; exact HB3.out.frozen 0
            have x1 : w3.cell? ⟨g, 1, none⟩ = some (.int .u32 (r1 : Int)) := by rw [hw3, HB3.out.cell]; exact hcells_low _ _ _ _ _ _ _ _ _ _ 1 _ rfl
            have y1 : w3.frozen? ⟨g, 1, none⟩ = false := by rw [hw3]; exact HB3.out.frozen 1
            have x2 : w3.cell? ⟨g, 2, none⟩ = some (.int .u32 (r2 : Int)) := by rw [hw3, HB3.out.cell]; exact hcells_low _ _ _ _ _ _ _ _ _ _ 2 _ rfl
            have y2 : w3.frozen? ⟨g, 2, none⟩ = false := by rw [hw3]; exact HB3.out.frozen 2
            have x3 : w3.cell? ⟨g, 3, none⟩ = some (.int .u32 (r3 : Int)) := by rw [hw3, HB3.out.cell]; exact hcells_low _ _ _ _ _ _ _ _ _ _ 3 _ rfl
            have y3 : w3.frozen? ⟨g, 3, none⟩ = false := by rw [hw3]; exact HB3.out.frozen 3
            have x4 : w3.cell? ⟨g, 4, none⟩ = some (.int .u32 (r4 : Int)) := by rw [hw3, HB3.out.cell]; exact hcells_low _ _ _ _ _ _ _ _ _ _ 4 _ rfl
            have y4 : w3.frozen? ⟨g, 4, none⟩ = false := by rw [hw3]; exact HB3.out.frozen 4
            have x5 : w3.cell? ⟨g, 5, none⟩ = some (.int .u32 (r5 : Int)) := by rw [hw3, HB3.out.cell]; exact hcells_low _ _ _ _ _ _ _ _ _ _ 5 _ rfl
            have y5 : w3.frozen? ⟨g, 5, none⟩ = false := by rw [hw3]; exact HB3.out.frozen 5
            have x6 : w3.cell? ⟨g, 6, none⟩ = some (.int .u32 (r6 : Int)) := by rw [hw3, HB3.out.cell]; exact hcells_low _ _ _ _ _ _ _ _ _ _ 6 _ rfl
            have y6 : w3.frozen? ⟨g, 6, none⟩ = false := by rw [hw3]; exact HB3.out.frozen 6
            have x7 : w3.cell? ⟨g, 7, none⟩ = some (.int .u32 (r7 : Int)) := by rw [hw3, HB3.out.cell]; exact hcells_low _ _ _ _ _ _ _ _ _ _ 7 _ rfl
            have y7 : w3.frozen? ⟨g, 7, none⟩ = false := by rw [hw3]; exact HB3.out.frozen 7
            have HB3' : Hid (Blk w3 g 76 (hcells [r0, r1, r2, r3, r4, r5, r6, r7] RR (tk + mn)).toArray) := by rw [hw3]; exact HB3.out
            rw [← hw3] at hcall hg3 hG3 ⊢
            clear hw3 HB3 k0 k1 k2 k3 k4 k5 k6 k7 k72 l0 l1 l2 l3 l4 l5 l6 l7 l72 c0 c1 c2 c3 c4 c5 c6 c7 c72 f0 f1 f2 f3 f4 f5 f6 f7 f72 HBR HW3
            go_region_with (go_at_call 47; (with_reducible refine hcall.mono ?_); rintro e w1 ⟨t0, t1, t2, t3, t4, t5, t6, t7, rfl, hT, hb1⟩; replace hb1 := below_of_drew hb1; obtain ⟨hc1, hf1⟩ := bcell hb1; have k0 := (hc1 g 0 hg3).trans x0; have l0 := (hf1 g 0 hg3).trans y0; have k1 := (hc1 g 1 hg3).trans x1; have l1 := (hf1 g 1 hg3).trans y1; have k2 := (hc1 g 2 hg3).trans x2; have l2 := (hf1 g 2 hg3).trans y2; have k3 := (hc1 g 3 hg3).trans x3; have l3 := (hf1 g 3 hg3).trans y3; have k4 := (hc1 g 4 hg3).trans x4; have l4 := (hf1 g 4 hg3).trans y4; have k5 := (hc1 g 5 hg3).trans x5; have l5 := (hf1 g 5 hg3).trans y5; have k6 := (hc1 g 6 hg3).trans x6; have l6 := (hf1 g 6 hg3).trans y6; have k7 := (hc1 g 7 hg3).trans x7; have l7 := (hf1 g 7 hg3).trans y7; clear hc1 hf1)
            all_goals go_wp2
            all_goals
              refine ⟨⟨k + mn, ?_, Rest.mk_ (by have := HM.out; omega) (fun hlt => by first | (exfalso; have := HM.out; omega) | rw [Nat.add_assoc]) (by have := HM.out; omega), ?_, ?_⟩, ?_⟩
            all_goals first
              | (have := HM.out; omega)
              | exact grown_eight (only_below hG3 hb1) _ _ _ _ _ _ _ _
              | (simp only [slen]; omega)
              | (rw [take_more, ← List.append_assoc, ← HC.out, ← HQ.out]
                 have hl : (cur ++ q).length = cur.length + mn := by rw [List.length_append, HQL.out]
                 have hB1 := (blk_turned (t0 := t0) (t1 := t1) (t2 := t2) (t3 := t3) (t4 := t4) (t5 := t5) (t6 := t6) (t7 := t7) (Blk.below HB3'.out hb1 hg3))
                 refine ⟨RR, ?_, HRRl.out, hRRa, ?_⟩
                 · rw [regOf_full r cur q (by rw [HQL.out, ← HAT.out]; exact hfull), ← HRRt.out, ← HRR.out, hT.out, hl, ← Nat.add_assoc, ← HTK.out]
                   exact hB1
                 · rw [tailOf_full cur q (by rw [HQL.out, ← HAT.out]; exact hfull), hl, show (cur.length + mn) % 64 = 0 by have := HAT.out; omega, List.take_zero])))
        · have tf : ((at_ : Int) + (mn : Int) == 64) = false := by simp; omega
          rcases hz with ⟨hz0, hz1⟩ | hz0
          · have t1 : ((at_ : Int) == 0) = true := by simp [hz0]
            have t2 : decide ((64 : Int) ≤ (m : Int)) = false := decide_eq_false (by omega)
            have HZ0 := Lib.hid hz0
            clear hz0
            go_wp2_with (
              refine wpl_copy_n rfl _ _ _ _ rfl 5 Tryd.underlying22 (by kernel_rfl) _ _ _ _ _ _ rfl rfl g (8 + at_) 76 _ _ _ (q.map v8) hB2.out
                (by simp [HRL.out]; omega) (by simp [HQL.out, HRL.out]; omega) (by rw [List.length_map, HQL.out]; exact HMN.out)
                (fun _ => ⟨rfl, _, rfl, bs_cells HQB.out⟩) (v8_one q) mn (by rw [List.length_map, HQL.out]) ?_
              intro w2 B2 O2
              rw [hcells_put] at B2
              have k72 : w2.cell? ⟨g, 72, none⟩ = some (.int .u64 (tk : Int)) := by
                rw [B2.cell]
                exact hcells_72 _ _ _ rfl (by simp [HRL.out, HQL.out]; omega)
              have l72 := B2.frozen 72)
            go_roundw
            case rel =>
              refine ⟨k + mn, by have := HM.out; omega, Rest.mk_ (by have := HM.out; omega) (fun hlt => by rw [if_neg (by have := HM.out; omega), Nat.add_assoc]) (by have := HM.out; omega), ?_, only_set (only_only hG O2) _ _⟩
              rw [take_more, ← List.append_assoc, ← HC.out, ← HQ.out]
              rw [HRR.out] at B2
              exact hash_less HAT.out HTK.out HQL.out (by omega) HR.out HRL.out hrest hqa HTL.out B2
            case measure => simp only [slen]; omega
          · have t1 : ((at_ : Int) == 0) = false := by simp; omega
            go_wp2_with (
              refine wpl_copy_n rfl _ _ _ _ rfl 5 Tryd.underlying22 (by kernel_rfl) _ _ _ _ _ _ rfl rfl g (8 + at_) 76 _ _ _ (q.map v8) hB2.out
                (by simp [HRL.out]; omega) (by simp [HQL.out, HRL.out]; omega) (by rw [List.length_map, HQL.out]; exact HMN.out)
                (fun _ => ⟨rfl, _, rfl, bs_cells HQB.out⟩) (v8_one q) mn (by rw [List.length_map, HQL.out]) ?_
              intro w2 B2 O2
              rw [hcells_put] at B2
              have k72 : w2.cell? ⟨g, 72, none⟩ = some (.int .u64 (tk : Int)) := by
                rw [B2.cell]
                exact hcells_72 _ _ _ rfl (by simp [HRL.out, HQL.out]; omega)
              have l72 := B2.frozen 72)
            go_roundw
            case rel =>
              refine ⟨k + mn, by have := HM.out; omega, Rest.mk_ (by have := HM.out; omega) (fun hlt => by rw [if_neg (by have := HM.out; omega), Nat.add_assoc]) (by have := HM.out; omega), ?_, only_set (only_only hG O2) _ _⟩
              rw [take_more, ← List.append_assoc, ← HC.out, ← HQ.out]
              rw [HRR.out] at B2
              exact hash_less HAT.out HTK.out HQL.out (by omega) HR.out HRL.out hrest hqa HTL.out B2
            case measure => simp only [slen]; omega
    · have im : ¬ ((0 : Int) < (m : Int)) := by omega
      have id : decide ((0 : Int) < (m : Int)) = false := decide_eq_false im
      go_wp2
      go_end0
      refine ⟨rfl, ?_, hG⟩
      have e : all ++ p = cur := by
        rw [HC.out, List.take_of_length_le (by rw [← HN.out]; have := HM.out; omega)]
      rw [e]
      refine ⟨rest, ?_, HRL.out, hrest, by rw [← HAT.out]; exact HTL.out⟩
      rw [← HRR.out, ← HTK.out]
      exact HB.out
end Go.Proofs.YtfedlgcpgfofjaaDoor.Sha
namespace Go.Proofs.YtfedlgcpgfofjaaDoor.Sha
open Go.RowKit Go.Proofs.YtfedlgcpgfofjaaDoorW.PrintWords
set_option linter.unusedVariables false
theorem run_index_row {P : Program} (T E n : Nat) {d : TypeDesc} (hu : P.underlying T = some (.array n E)) (hE : P.underlying E = some d) (hd : d.isRow = false) (hs : (P.info? E).map (·.size) = some 1) (cs : Array Value) (k : Nat) (v : Value) (hk : k < n)
    (hc : cs[k]? = some v) (W : World) : (Instr.index T (.agg cs) (.int .i64 (k : Int))).run P W = .ok v W := by
  have hagg : (isAgg E).run P W = .ok false W := by
    unfold isAgg
    rw [Sem.run_bind, run_underlying hE W]
    cases d <;> simp_all [TypeDesc.isRow]
  cases hq : P.info? E with
  | none => simp [hq] at hs
  | some i =>
    have h1 : i.size = 1 := by simpa [hq] using hs
    simp [Instr.index, asIntOf, run_underlying hu, sizeOf, typeInfo, hq, h1, part, hagg, hc, hk]
theorem bytesR_app (a b : List Nat) : bytesR (a ++ b) = bytesR a ++ bytesR b := by unfold bytesR; rw [List.flatMap_append]
theorem bytesR_pre (r : List Nat) (k : Nat) (h : k ≤ r.length) : (bytesR r).take (4 * k) = bytesR (r.take k) := by
  have e : bytesR r = bytesR (r.take k) ++ bytesR (r.drop k) := by rw [← bytesR_app, List.take_append_drop]
  rw [e, List.take_left' (by rw [bytesR_len, List.length_take]; omega)]
section
variable {P : Program} {w : World} {ops : Array Oper} {rest : List Oper} {o : Oper} {a : Act} {Q : Exit → Act → World → Prop}
theorem wpl_set (hgd : o.guard = none) (ty : TypeId) (x y : Operand) (ho : o.op = .store ty x y) (g i : Nat) (hx : a.eval x = .pointer (some ⟨g, i, none⟩)) (t : TypeId) (cs : Array Value) (v : Value) (hy : a.eval y = v) (hvc : v.cells = #[v])
    (hv : v.oneCell' = true) (hB : Blk w g t cs) (hi : i < cs.size) (hs : (P.info? ty).map (·.size) = some 1) (h : ∀ w', Blk w' g t (cs.setIfInBounds i v) → Only g w w' → wpList P ops Q rest (a.put o.dst undef) w') : wpList P ops Q (o :: rest) a w := by
  have hst := run_storeCells_at P g i t [v] 0 cs w hB (by simp only [List.length_singleton]; omega) (by simpa using hv)
  have e : (cs.toList.take i ++ [v] ++ cs.toList.drop (i + 1)).toArray = cs.setIfInBounds i v := by
    apply Array.ext'
    rw [Array.toList_setIfInBounds, List.set_eq_take_append_cons_drop, if_pos (by simpa using hi)]
    simp
  refine wpList_plain hgd fun _ hK => ?_
  unfold Oper.wp execOp
  cases hq : P.info? ty with
  | none => simp [hq] at hs
  | some q =>
    have h1 : q.size = 1 := by simpa [hq] using hs
    have hrun : (storeVar ty ⟨g, i, none⟩ v).run P w = .ok () (w.setRow g (cs.setIfInBounds i v)) := by
      rw [← e]
      simp only [Nat.add_zero, List.length_singleton] at hst
      simp [storeVar, sizeOf, typeInfo, hq, hvc, h1] at hst ⊢
      exact hst
    simp only [ho, hx, hy, Instr.storeAt, Instr.sureAddr, Sem.run_bind, Sem.run_pure, Result.andThen_ok, hrun]
    exact hK _ _ (h _ (setRow_heap w g _ _ t _ hB) (Only.setRow w g _))
end
set_option maxRecDepth 100000 in
set_option maxHeartbeats 1000000 in
theorem bytes_any (r : List Nat) (w : World) (hr : r.length = 8) (hra : All 4294967296 r) :
    Calls Tryd.prog 49 #[.agg (r.map v32).toArray] w fun e w' => e = .returned (.agg ((bytesR r).map v8).toArray) ∧ Below w.heap.size w w' := by
  obtain ⟨D, hD⟩ : ∃ D, D = bytesR r := ⟨_, rfl⟩
  have hDl : D.length = 32 := by rw [hD, bytesR_len, hr]
  rw [← hD]
  have HR := Lib.hid hr; have HD := Lib.hid hD; have HDl := Lib.hid hDl
  clear hr hD hDl
  have hix : ∀ (W : World) (k : Nat), k < 8 → (Instr.index 73 (.agg (r.map v32).toArray) (.int .i64 (k : Int))).run Tryd.prog W = .ok (.int .u32 (r.getD k 0 : Nat)) W := by
    intro W k hk
    exact run_index_row 73 55 8 Tryd.underlying73 Tryd.underlying55 rfl (by kernel_rfl) _ k _ hk (by rw [List.getElem?_toArray, List.getElem?_map, List.getElem?_eq_getElem (by rw [HR.out]; exact hk), List.getD_eq_getElem?_getD, List.getElem?_eq_getElem (by rw [HR.out]; exact hk)]; rfl) W
  have HIX := Lib.hid hix
  clear hix
  go_enter Tryd.func49, Tryd.ntmps49
  go_wp2_with (refine wpl_load rfl 73 _ rfl w.heap.size 0 rfl 73 [] (r.map v32) [] (by rw [List.nil_append, List.append_nil]; exact ((Blk.new w 73 _).alloc _).alloc _) rfl _ Tryd.underlying73 rfl (by rw [List.length_map, HR.out]; kernel_rfl) ?_)
  go_loopw [7] (fun i wr => ∃ k : Nat, k ≤ 8 ∧ i = .int .i64 (k : Int) ∧ Below w.heap.size w wr ∧ Blk wr (w.heap.size + 1) 24 (c8 (List.replicate 32 0)) ∧ Blk wr (w.heap.size + 1 + 1) 24 (c8 (D.take (4 * k) ++ List.replicate (32 - 4 * k) 0))) (fun i _ => 8 - (intOf i).toNat)
  case atStart => exact ⟨0, by omega, rfl, (((Below.refl _ _).alloc (Nat.le_refl _) _).alloc (by simp) _).alloc (by simp; omega) _, (Blk.new_ (w.alloc _) 24 (c8 (List.replicate 32 0)) _ (by simp)).alloc _, Blk.new_ ((w.alloc _).alloc _) 24 _ _ (by simp)⟩
  case round =>
    obtain ⟨k, hk, rfl, hbel, BZ, B2⟩ := hrel
    by_cases hlt : k < 8
    · have dk : decide ((k : Int) < 8) = true := decide_eq_true (by omega)
      obtain ⟨x, ex, lx⟩ : ∃ x : Nat, x = r.getD k 0 ∧ x < 4294967296 := ⟨_, rfl, hra.getD (by decide) k⟩
      have hi : ∀ W : World, (Instr.index 73 (.agg (r.map v32).toArray) (.int .i64 (k : Int))).run Tryd.prog W = .ok (.int .u32 (x : Int)) W := fun W => by rw [ex]; exact HIX.out W k hlt
      have EX := Lib.hid ex
      clear ex
      have hsz : (c8 (D.take (4 * k) ++ List.replicate (32 - 4 * k) 0)).size = 32 := by simp [c8, HDl.out]; omega
      have HSZ := Lib.hid hsz; have HB2 := Lib.hid B2
      clear hsz B2
      have ak : (0 : Int) ≤ (k : Int) := by omega
      have bk : (k : Int) < 8 := by omega
      have n1 : (4 * (k : Int) + 1).toNat = 4 * k + 1 := by omega
      have n2 : (4 * (k : Int) + 2).toNat = 4 * k + 2 := by omega
      have n3 : (4 * (k : Int) + 3).toNat = 4 * k + 3 := by omega
      have n0 : (4 * (k : Int)).toNat = 4 * k := by omega
      go_wp2_with (first
        | (refine wpl_set rfl 5 _ _ rfl (w.heap.size + 1 + 1) (4 * k) rfl 24 _ _ rfl rfl rfl HB2.out (by rw [HSZ.out]; omega) (by kernel_rfl) ?_; intro w1 B21 O1)
        | (refine wpl_set rfl 5 _ _ rfl (w.heap.size + 1 + 1) (4 * k + 1) rfl 24 _ _ rfl rfl rfl B21 (by simp only [Array.size_setIfInBounds, HSZ.out]; omega) (by kernel_rfl) ?_; intro w2 B22 O2)
        | (refine wpl_set rfl 5 _ _ rfl (w.heap.size + 1 + 1) (4 * k + 2) rfl 24 _ _ rfl rfl rfl B22 (by simp only [Array.size_setIfInBounds, HSZ.out]; omega) (by kernel_rfl) ?_; intro w3 B23 O3)
        | (refine wpl_set rfl 5 _ _ rfl (w.heap.size + 1 + 1) (4 * k + 3) rfl 24 _ _ rfl rfl rfl B23 (by simp only [Array.size_setIfInBounds, HSZ.out]; omega) (by kernel_rfl) ?_; intro w4 B24 O4))
      go_roundw
      case rel =>
        have hBe := O4.below (O3.below (O2.below (O1.below hbel (by omega)) (by omega)) (by omega)) (by omega)
        have hBZ := ((((BZ.only O1 (by omega)).only O2 (by omega)).only O3 (by omega)).only O4 (by omega))
        refine ⟨k + 1, by omega, by go_num, hBe, hBZ, ?_⟩
        have e0 : (x : Int) / 16777216 = ((x / 16777216 % 256 : Nat) : Int) := by omega
        have e1 : (x : Int) / 65536 % 256 = ((x / 65536 % 256 : Nat) : Int) := by omega
        have e2 : (x : Int) / 256 % 256 = ((x / 256 % 256 : Nat) : Int) := by omega
        have e3 : (x : Int) % 256 = ((x % 256 : Nat) : Int) := by omega
        rw [e0, e1, e2, e3] at B24
        have hl := HDl.out
        have p0 := c8_push (D.take (4 * k)) (31 - 4 * k) (4 * k) (x / 16777216 % 256) (by rw [List.length_take]; omega)
        have p1 := c8_push (D.take (4 * k) ++ [x / 16777216 % 256]) (30 - 4 * k) (4 * k + 1) (x / 65536 % 256) (by rw [List.length_append, List.length_take]; simp; omega)
        have p2 := c8_push (D.take (4 * k) ++ [x / 16777216 % 256] ++ [x / 65536 % 256]) (29 - 4 * k) (4 * k + 2) (x / 256 % 256) (by rw [List.length_append, List.length_append, List.length_take]; simp; omega)
        have p3 := c8_push (D.take (4 * k) ++ [x / 16777216 % 256] ++ [x / 65536 % 256] ++ [x / 256 % 256]) (28 - 4 * k) (4 * k + 3) (x % 256) (by rw [List.length_append, List.length_append, List.length_append, List.length_take]; simp; omega)
        rw [show 31 - 4 * k + 1 = 32 - 4 * k by omega] at p0
        rw [show 30 - 4 * k + 1 = 31 - 4 * k by omega] at p1
        rw [show 29 - 4 * k + 1 = 30 - 4 * k by omega] at p2
        rw [show 28 - 4 * k + 1 = 29 - 4 * k by omega] at p3
        have hB : Blk w4 (w.heap.size + 1 + 1) 24 (((((c8 (D.take (4 * k) ++ List.replicate (32 - 4 * k) 0)).setIfInBounds (4 * k) (v8 (x / 16777216 % 256))).setIfInBounds (4 * k + 1) (v8 (x / 65536 % 256))).setIfInBounds (4 * k + 2) (v8 (x / 256 % 256))).setIfInBounds (4 * k + 3) (v8 (x % 256))) := B24
        rw [p0, p1, p2, p3] at hB
        have eD : D.take (4 * (k + 1)) = D.take (4 * k) ++ [x / 16777216 % 256] ++ [x / 65536 % 256] ++ [x / 256 % 256] ++ [x % 256] := by
          rw [HD.out, bytesR_pre r (k + 1) (by rw [HR.out]; omega), bytesR_pre r k (by rw [HR.out]; omega), bytesR_take r k (by rw [HR.out]; omega), ← EX.out]
          simp [bytesW]
        rw [eD, show 32 - 4 * (k + 1) = 28 - 4 * k by omega]
        exact hB
      case measure => simp [intOf]; omega
    · have dk : decide ((k : Int) < 8) = false := decide_eq_false (by omega)
      have BD' : Blk wr (w.heap.size + 1 + 1) 24 ([] ++ D.map v8 ++ []).toArray := by
        have h := B2
        rw [show 32 - 4 * k = 0 by omega, List.replicate_zero, List.append_nil, List.take_of_length_le (by rw [HDl.out]; omega)] at h
        rw [List.nil_append, List.append_nil]
        exact h
      have BZ' : Blk wr (w.heap.size + 1) 24 ([] ++ (List.replicate 32 0).map v8 ++ []).toArray := BZ
      have HB := Lib.hid BD'; have HBZ := Lib.hid BZ'
      clear B2 BD' BZ BZ'
      go_wp2_with (first
        | (refine wpl_load rfl 24 _ rfl (w.heap.size + 1 + 1) 0 rfl 24 [] (D.map v8) [] HB.out rfl _ Tryd.underlying24 rfl (by rw [List.length_map, HDl.out]; kernel_rfl) ?_)
        | (refine wpl_store rfl 24 _ _ rfl (w.heap.size + 1) 0 rfl 24 [] ((List.replicate 32 0).map v8) [] (D.map v8) rfl HBZ.out rfl (by rw [List.length_map, HDl.out]; rfl) (by rw [List.length_map, HDl.out]; kernel_rfl) (v8_one D) ?_; intro w9 B9 O9))
      exact bodyPost_ret (results_cell_row rfl _ _ (w.heap.size + 1) 24 (D.map v8).toArray (0, 0) _ rfl (by have h9 := B9; rw [List.nil_append, List.append_nil] at h9; exact h9) Tryd.underlying24 rfl (by rw [show (D.map v8).toArray.size = 32 by simp [HDl.out]]; kernel_rfl)) rfl ⟨rfl, O9.below hbel (by omega)⟩
end Go.Proofs.YtfedlgcpgfofjaaDoor.Sha
namespace Go.Proofs.YtfedlgcpgfofjaaDoor.Sha
open Go.RowKit Go.Proofs.YtfedlgcpgfofjaaDoorW.PrintWords
set_option linter.unusedVariables false
def TabF (w : World) : Prop := ∀ j, j < 8 → w.cell? ⟨0, j, none⟩ = some (v32 (first.getD j 0))
theorem TabF.below {w w' : World} {B : Nat} (h : TabF w) (hb : Below B w w') (hB : 0 < B) : TabF w' := fun j hj => (hb.cell (p := ⟨0, j, none⟩) hB).trans (h j hj)
theorem first_len : first.length = 8 := rfl
theorem first_all : All 4294967296 first := by intro x hx; revert x; decide
set_option maxRecDepth 100000 in
set_option maxHeartbeats 400000 in
theorem new_any (w : World) (hf : TabF w) :
    Calls Tryd.prog 25 #[] w fun e w' => e = .returned (.pointer (some ⟨w.heap.size, 0, none⟩)) ∧ w.alloc (.cells (hcells first (List.replicate 64 0) 0).toArray 76) = w' := by
  have q0 : w.cell? ⟨0, 0, none⟩ = some (.int .u32 1779033703) := hf 0 (by decide)
  have q1 : w.cell? ⟨0, 1, none⟩ = some (.int .u32 3144134277) := hf 1 (by decide)
  have q2 : w.cell? ⟨0, 2, none⟩ = some (.int .u32 1013904242) := hf 2 (by decide)
  have q3 : w.cell? ⟨0, 3, none⟩ = some (.int .u32 2773480762) := hf 3 (by decide)
  have q4 : w.cell? ⟨0, 4, none⟩ = some (.int .u32 1359893119) := hf 4 (by decide)
  have q5 : w.cell? ⟨0, 5, none⟩ = some (.int .u32 2600822924) := hf 5 (by decide)
  have q6 : w.cell? ⟨0, 6, none⟩ = some (.int .u32 528734635) := hf 6 (by decide)
  have q7 : w.cell? ⟨0, 7, none⟩ = some (.int .u32 1541459225) := hf 7 (by decide)
  have H := Lib.hid hf
  clear hf
  go_enter Tryd.func25, Tryd.ntmps25
  go_wp2
  go_ret
  exact ⟨rfl, rfl⟩
set_option maxRecDepth 100000 in
set_option maxHeartbeats 400000 in
theorem rbegin_any (w : World) :
    Calls Tryd.prog 46 #[] w fun e w' => e = .returned (.agg #[.int .u32 1779033703, .int .u32 3144134277, .int .u32 1013904242, .int .u32 2773480762, .int .u32 1359893119, .int .u32 2600822924, .int .u32 528734635, .int .u32 1541459225]) ∧ Below w.heap.size w w' := by
  go_enter Tryd.func46, Tryd.ntmps46
  go_wp2
  exact bodyPost_ret (results_cell_row rfl _ _ w.heap.size 56 _ (0, 0) _ rfl (Blk.new w 56 _) Tryd.underlying56 rfl (by kernel_rfl)) rfl ⟨rfl, (Below.refl _ _).alloc (Nat.le_refl _) _⟩
/-- The sum of bytes. -/
def sumOf (p : List Nat) : List Nat := total first 0 p
theorem total_len (r : List Nat) (past : Nat) (p : List Nat) (hr : r.length = 8) : (total r past p).length = 32 := by unfold total; rw [bytesR_len, blocks_len hr]
theorem total_all (r : List Nat) (past : Nat) (p : List Nat) : All 256 (total r past p) := bytesR_all _
theorem sumOf_len (p : List Nat) : (sumOf p).length = 32 := total_len _ _ _ first_len
theorem sumOf_all (p : List Nat) : All 256 (sumOf p) := total_all _ _ _
set_option maxRecDepth 100000 in
set_option maxHeartbeats 400000 in
theorem rsum_any (p : List Nat) (A : Option Addr) (c : Nat) (w : World) (hp : p.length ≤ 100000000000000) (hpa : All 256 p) (hbs : C8 w A p.length p) (ht : Tab2 w) (h2 : 2 < w.heap.size) :
    Calls Tryd.prog 17 #[.slice A p.length c] w fun e w' => e = .returned (.agg ((sumOf p).map v8).toArray) ∧ Below w.heap.size w w' := by
  obtain ⟨D, hD⟩ : ∃ D, D = sumOf p := ⟨_, rfl⟩
  have hDl : D.length = 32 := by rw [hD]; exact sumOf_len p
  have hcall : ∀ W : World, Below w.heap.size w W → Calls Tryd.prog 43 #[.agg #[.int .u32 1779033703, .int .u32 3144134277, .int .u32 1013904242, .int .u32 2773480762, .int .u32 1359893119, .int .u32 2600822924, .int .u32 528734635, .int .u32 1541459225, .int .u64 0, .slice A p.length c]] W fun e w' => e = .returned (.agg (D.map v8).toArray) ∧ Below W.heap.size W w' := fun W hb => by
    rw [hD]
    exact rtotal_any first p 0 A c W first_len first_all hp hpa (by decide) (hbs.below hb) (ht.below hb h2) (Nat.lt_of_lt_of_le h2 hb.size)
  rw [← hD]
  have HC := Lib.hid hcall; have HDl := Lib.hid hDl; have HBS := Lib.hid hbs; have HT := Lib.hid ht
  clear hcall hD hDl hbs ht
  go_enter Tryd.func17, Tryd.ntmps17
  go_wp2_with (first
    | (go_at_call 46; (with_reducible refine (rbegin_any _).mono ?_); rintro e w1 ⟨rfl, hb1⟩
       have hbw1 : Below w.heap.size w w1 := ((Below.refl _ _).alloc (Nat.le_refl _) _).trans (hb1.mono (by simp))
       have BZ1 : Blk w1 w.heap.size 24 (c8 (List.replicate 32 0)) := (Blk.new w 24 (c8 (List.replicate 32 0))).below hb1 (by simp))
    | (go_at_call 43; (with_reducible refine (HC.out _ hbw1).mono ?_); rintro e w2 ⟨rfl, hb2⟩
       have BZ2 : Blk w2 w.heap.size 24 ([] ++ (List.replicate 32 0).map v8 ++ []).toArray := BZ1.below hb2 BZ1.lt
       have hbw2 := hbw1.trans (hb2.mono hbw1.size))
    | (refine wpl_store rfl 24 _ _ rfl w.heap.size 0 rfl 24 [] ((List.replicate 32 0).map v8) [] (D.map v8) rfl BZ2 rfl (by rw [List.length_map, HDl.out]; rfl) (by rw [List.length_map, HDl.out]; kernel_rfl) (v8_one D) ?_; intro w9 B9 O9))
  exact bodyPost_ret (results_cell_row rfl _ _ w.heap.size 24 (D.map v8).toArray (0, 0) _ rfl (by have h9 := B9; rw [List.nil_append, List.append_nil] at h9; exact h9) Tryd.underlying24 rfl (by rw [show (D.map v8).toArray.size = 32 by simp [HDl.out]]; kernel_rfl)) rfl ⟨rfl, O9.below hbw2 (Nat.le_refl _)⟩
set_option maxRecDepth 100000 in
set_option maxHeartbeats 400000 in
theorem write_none (g : Nat) (A : Option Addr) (c : Nat) (w : World) :
    Calls Tryd.prog 18 #[.pointer (some ⟨g, 0, none⟩), .slice A 0 c] w fun e w' => e = .returned (.tuple #[]) ∧ w = w' := by
  go_enter Tryd.func18, Tryd.ntmps18
  go_wp2
  go_loopw [1] (fun v wr => v = .slice A 0 c ∧ w = wr) (fun v _ => 0)
  case atStart => exact ⟨rfl, rfl⟩
  case round =>
    obtain ⟨rfl, rfl⟩ := hrel
    go_wp2
    go_end0
    exact ⟨rfl, rfl⟩
/-- Write, whatever comes in. -/
theorem write_c (g past : Nat) (r all p : List Nat) (A : Option Addr) (n c : Nat) (w : World) (hr : r.length = 8) (hra : All 4294967296 r) (hpast : past % 64 = 0) (hmax : past + all.length + p.length ≤ 2305843009213693952)
    (hH : HashAt w g r past all) (hall : All 256 all) (hn : n = p.length) (hpc : n ≤ c) (hpa : All 256 p) (hC : C8 w A p.length p) (hbg : 0 < p.length → ∀ b o, A = some ⟨b, o, none⟩ → b ≠ g) (ht : Tab1 w) (h1 : 1 < w.heap.size) (h1g : 1 ≠ g) :
    Calls Tryd.prog 18 #[.pointer (some ⟨g, 0, none⟩), .slice A n c] w fun e w' => e = .returned (.tuple #[]) ∧ HashAt w' g r past (all ++ p) ∧ w.grownBy w' (some g) := by
  subst hn
  rcases Nat.eq_zero_or_pos p.length with h0 | h0
  · have hp : p = [] := List.eq_nil_of_length_eq_zero h0
    subst hp
    refine (write_none g A c w).mono fun e w' ⟨he, hw⟩ => ?_
    subst hw
    exact ⟨he, by rw [List.append_nil]; exact hH, World.grownBy.refl w _⟩
  · obtain ⟨b, o, rfl, hb, hbs⟩ := hC.at_ h0
    exact write_any g past r all p b o c w hr hra hpast hmax hH hall h0 hpc hpa hbs hb (hbg h0 b o rfl) ht h1 h1g
end Go.Proofs.YtfedlgcpgfofjaaDoor.Sha
namespace Go.Proofs.YtfedlgcpgfofjaaDoor.Sha
open Go.RowKit Go.Proofs.YtfedlgcpgfofjaaDoorW.PrintWords
set_option linter.unusedVariables false
theorem hcells_len (R rest : List Nat) (tk : Nat) (hR : R.length = 8) (hr : rest.length = 64) : (hcells R rest tk).length = 73 := by simp [hcells, hR, hr]
theorem hcells_one (R rest : List Nat) (tk : Nat) : ∀ v ∈ hcells R rest tk, v.oneCell' = true := by
  intro v hv
  unfold hcells at hv
  rcases List.mem_append.1 hv with h | h
  · rcases List.mem_append.1 h with h | h
    · exact one32 _ v h
    · exact v8_one _ v h
  · rw [List.mem_singleton.1 h]; rfl
/-- What is laid behind the bytes. -/
def padTail (all : List Nat) (n : Nat) : List Nat := [128] ++ List.replicate (zeros all.length) 0 ++ eight n
theorem padTail_app (all : List Nat) (n : Nat) : all ++ padTail all n = padOf all n := by simp [padTail, padOf]
theorem HashAt.keep {w w' : World} {g : Nat} {r all : List Nat} {past : Nat} (h : HashAt w g r past all) (hk : w'.heap[g]? = w.heap[g]?) : HashAt w' g r past all := by
  obtain ⟨rest, hB, h1, h2, h3⟩ := h
  exact ⟨rest, hk.trans hB, h1, h2, h3⟩
theorem HashAt.lt {w : World} {g : Nat} {r all : List Nat} {past : Nat} (h : HashAt w g r past all) : g < w.heap.size := by
  obtain ⟨rest, hB, _⟩ := h
  exact hB.lt
set_option maxRecDepth 100000 in
set_option maxHeartbeats 800000 in
theorem hsum_any (g past : Nat) (r all : List Nat) (w : World) (hr : r.length = 8) (hra : All 4294967296 r) (hpast : past % 64 = 0) (hmax : past + all.length ≤ 1152921504606846976 + 150000000000000)
    (hH : HashAt w g r past all) (hall : All 256 all) (ht : Tab1 w) (h1 : 1 < w.heap.size) :
    Calls Tryd.prog 19 #[.pointer (some ⟨g, 0, none⟩)] w fun e w' => e = .returned (.agg ((total r past all).map v8).toArray) ∧ Below w.heap.size w w' := by
  obtain ⟨rest, hB, hrl, hrest, htl⟩ := hH
  obtain ⟨R, hR⟩ : ∃ R, R = regOf r all := ⟨_, rfl⟩
  have hRl : R.length = 8 := by rw [hR]; exact regOf_len hr all
  obtain ⟨tk, htk⟩ : ∃ tk, tk = past + all.length := ⟨_, rfl⟩
  rw [← hR, ← htk] at hB
  obtain ⟨Z, hZ⟩ : ∃ Z, Z = zeros all.length := ⟨_, rfl⟩
  have hZ1 : Z = (119 - tk % 64) % 64 := by rw [hZ, htk]; unfold zeros; omega
  have hgl := hB.lt
  have HH : Hid (HashAt w g r past all) := ⟨rest, by rw [← hR, ← htk]; exact hB, hrl, hrest, htl⟩
  have c72 : w.cell? ⟨g, 72, none⟩ = some (.int .u64 (tk : Int)) := (hB.cell 72).trans (hcells_72 R rest tk hRl hrl)
  have HRL := Lib.hid hRl; have HRR := Lib.hid hR; have HTK := Lib.hid htk; have HZ := Lib.hid hZ; have HB := Lib.hid hB; have HRS := Lib.hid hrl; have HP := Lib.hid hpast; have HR := Lib.hid hr; have HTL := Lib.hid htl; have HT := Lib.hid ht
  have htk2 : tk ≤ 1152921504606846976 + 150000000000000 := by omega
  clear hRl hR htk hZ hB hrl hpast hr htl ht hmax
  have i0 : (0 : Int) ≤ (tk : Int) := by omega
  have i1 : (tk : Int) ≤ 1153071504606846976 := by omega
  have hC0 : Hid (Blk ((w.alloc (.cells (c8 (List.replicate 32 0)) 24))) g 76 ([] ++ hcells R rest tk ++ []).toArray) := by
    show Blk _ _ _ _
    rw [List.nil_append, List.append_nil]
    exact HB.out.alloc _
  go_enter Tryd.func19, Tryd.ntmps19
  go_wp2_with (first
    | (refine wpl_load rfl 76 _ rfl g 0 rfl 76 [] (hcells R rest tk) [] hC0.out rfl _ Tryd.underlying76 rfl (by rw [hcells_len R rest tk HRL.out HRS.out]; kernel_rfl) ?_)
    | (refine wpl_store rfl 76 _ _ rfl (w.heap.size + 1) 0 rfl 76 [] (hcells (List.replicate 8 0) (List.replicate 64 0) 0) [] (hcells R rest tk) rfl
        (by rw [List.nil_append, List.append_nil]; exact Blk.new_ (w.alloc _) 76 (hcells (List.replicate 8 0) (List.replicate 64 0) 0).toArray _ (by simp)) rfl (by rw [hcells_len R rest tk HRL.out HRS.out]; rfl) (by rw [hcells_len R rest tk HRL.out HRS.out]; kernel_rfl) (hcells_one R rest tk) ?_
       intro w2 B2 O2))
  have hsz2 : w2.heap.size = w.heap.size + 1 + 1 := by rw [O2.size]; simp
  have hb2 : Below w.heap.size w w2 := O2.below (((Below.refl _ _).alloc (Nat.le_refl _) _).alloc (by simp) _) (by omega)
  have BZ2 : Blk w2 w.heap.size 24 (c8 (List.replicate 32 0)) := (((Blk.new w 24 (c8 (List.replicate 32 0))).alloc _).only O2 (by omega))
  have BC2 : Blk w2 (w.heap.size + 1) 76 (hcells R rest tk).toArray := by
    have h := B2
    rw [List.nil_append, List.append_nil] at h
    exact h
  have O128 : Own (w2.alloc (.cells #[.int .u8 128] 5)) w.heap.size (.slice (some ⟨w2.heap.size, 0, none⟩) 1 1) [128] := Own.of_Blk (p := [128]) (Blk.new w2 5 (c8 [128])) (by omega) (by decide)
  have hb3 := hb2.alloc hb2.size (.cells #[.int .u8 128] 5)
  have BZ3 := BZ2.alloc (.cells #[.int .u8 128] 5)
  have BC3 := BC2.alloc (.cells #[.int .u8 128] 5)
  clear B2 BZ2 BC2 O2 hb2 hsz2
  have hlen : ∀ z, ([128] ++ List.replicate z 0 : List Nat).length = 1 + z := fun z => by simp; omega
  have HLEN := Lib.hid hlen
  clear hlen
  go_loopw [4] (fun v wr => ∃ z : Nat, z ≤ Z ∧ Own wr w.heap.size v ([128] ++ List.replicate z 0) ∧ Below w.heap.size w wr ∧ Blk wr w.heap.size 24 (c8 (List.replicate 32 0)) ∧ Blk wr (w.heap.size + 1) 76 (hcells R rest tk).toArray) (fun v _ => 70 - slen v)
  case atStart => exact ⟨0, by omega, O128, hb3, BZ3, BC3⟩
  case round =>
    clear O128 hb3 BZ3 BC3
    obtain ⟨z, hz, O, hbel, BZ, BC⟩ := hrel
    obtain ⟨A4, n4, c4, hn4, rfl, hC4⟩ := O.arg_
    rw [HLEN.out] at hn4 hC4
    have hn4' : n4 = 1 + z := hn4
    have j0 : (0 : Int) ≤ (n4 : Int) := by omega
    have j1 : (n4 : Int) ≤ 100 := by omega
    have d72 : wr.cell? ⟨w.heap.size + 1, 72, none⟩ = some (.int .u64 (tk : Int)) := (BC.cell 72).trans (hcells_72 R rest tk HRL.out HRS.out)
    have hs := hbel.size
    by_cases hlt : z < Z
    · have t1 : (((tk : Int) + (n4 : Int)) % 64 != 56) = true := by
        have : ¬ (((tk : Int) + (n4 : Int)) % 64 = 56) := by omega
        simpa using this
      have HN := Lib.hid hn4'
      have hO := Lib.hid O
      clear hn4 hn4'
      go_wp2_with (at_builtin; refine wpl_append rfl _ _ _ rfl info_byte Tryd.underlying22 w.heap.size _ _ rfl (hO.out.alloc _) _ _ _ [0] rfl rfl (C8.one_ _ 0 0 rfl _ rfl) (by rw [HLEN.out]; simp; omega) (by simp; omega) ?_; intro v3 w3 O3 G3 _)
      go_roundw
      case rel =>
        refine ⟨z + 1, by omega, ?_, (hbel.alloc hs _).grown G3 (by simp; omega) (fun k hk => (hO.out.lt k hk).1), (BZ.alloc _).grown G3 (hO.out.ne BZ (by decide)), (BC.alloc _).grown G3 (hO.out.ne BC (by decide))⟩
        rw [List.replicate_succ', ← List.append_assoc]
        exact O3
      case measure =>
        obtain ⟨A5, n5, c5, hn5, rfl, _⟩ := O3.arg_
        have h1 := HN.out
        have h2 := HLEN.out z
        simp only [slen_slice]
        rw [List.length_append, h2] at hn5
        simp at hn5
        omega
    · have t1 : (((tk : Int) + (n4 : Int)) % 64 != 56) = false := by
        have : (((tk : Int) + (n4 : Int)) % 64 = 56) := by omega
        simpa using this
      have hzZ : z = Z := by omega
      obtain ⟨q4, hq4⟩ : ∃ q4, q4 = ([128] ++ List.replicate z 0 : List Nat) := ⟨_, rfl⟩
      rw [← hq4] at O
      have HN : Hid (n4 = q4.length) := by rw [hq4, HLEN.out]; exact hn4
      obtain ⟨N, hN⟩ : ∃ N, N = 8 * tk := ⟨_, rfl⟩
      obtain ⟨E, hE⟩ : ∃ E, E = eight N := ⟨_, rfl⟩
      have hEl : E.length = 8 := by rw [hE]; exact eight_len N
      have hEa : All 256 E := by rw [hE]; exact eight_all N
      have h8 : ∀ W : World, Calls Tryd.prog 48 #[.int .u64 ((tk : Int) * 8)] W fun e w' => ∃ v, e = .returned v ∧ Own w' W.heap.size v E ∧ Below W.heap.size W w' := fun W => by
        have h := eight_any N W (by omega)
        rw [← hE] at h
        rw [show (N : Int) = (tk : Int) * 8 by omega] at h
        exact h
      have HQ : Hid (padTail all N = q4 ++ E) := by
        show padTail all N = _
        rw [hq4, hE, hzZ, HZ.out]
        rfl
      have hqa : All 256 (padTail all N) := ((All.one (by decide)).app (All.rep (by decide) _)).app (eight_all N)
      have hql : (padTail all N).length = n4 + 8 := by rw [HQ.out, List.length_append, hEl, HN.out]
      obtain ⟨q, hq⟩ : ∃ q, q = padTail all N := ⟨_, rfl⟩
      rw [← hq] at hqa hql HQ
      have HQL := Lib.hid hql; have HQE := Lib.hid hq; have H8 := Lib.hid h8; have HEl := Lib.hid hEl; have HNN := Lib.hid hN
      have hO := Lib.hid O
      have n4b : n4 ≤ 100 := by omega
      have e72 : wr.cell? ⟨g, 72, none⟩ = some (.int .u64 (tk : Int)) := (hbel.cell (p := ⟨g, 72, none⟩) hgl).trans c72
      clear hn4 hn4' hC4 hzZ hq4 hN hE hEl h8 hql hq
      go_wp2_with (first
        | (go_at_call 48; (with_reducible refine (H8.out _).mono ?_); rintro e w5 ⟨v5, rfl, O5, hb5⟩; obtain ⟨A5, n5, c5, hn5, rfl, hC5⟩ := O5.arg_; have HN5 := Lib.hid hn5; clear hn5)
        | (at_builtin; refine wpl_append rfl _ _ _ rfl info_byte Tryd.underlying22 w.heap.size _ _ rfl (hO.out.below hb5) _ _ _ E rfl HN5.out hC5 (by rw [← HN.out, HEl.out]; omega) (by have := hb5.size; omega) ?_; intro v6 w6 O6 G6 _
           have BC6 := (BC.below hb5 BC.lt).grown G6 (hO.out.ne BC (by decide)); have BZ6 := (BZ.below hb5 BZ.lt).grown G6 (hO.out.ne BZ (by decide))
           have hb6 := (hbel.trans (hb5.mono hs)).grown G6 (by have := hb5.size; omega) (fun k hk => (hO.out.lt k hk).1)
           have hne6 := O6.ne BC6 (by decide)
           rw [← HQ.out] at O6; obtain ⟨A6, c6, hv6, hle6, hC6⟩ := O6.arg; subst hv6)
        | (go_at_call 18
           refine ((write_c (w.heap.size + 1) past r all q A6 q.length c6 _ HR.out hra HP.out (by rw [HQL.out]; have := HTK.out; omega) ⟨rest, by rw [← HRR.out, ← HTK.out]; exact BC6, HRS.out, hrest, HTL.out⟩ hall rfl hle6 hqa hC6
              (fun _ b o e h => by subst e; subst h; exact hne6 rfl) (HT.out.below hb6 h1) (by have := hb6.size; omega) (by omega)).mono ?_); rintro e w7 ⟨rfl, H7, G7⟩
           obtain ⟨rest7, B7, hrl7, hrest7, htl7⟩ := H7
           have BZ7 := BZ6.grown G7 (by simp)
           have hb7 : Below w.heap.size w w7 := hb6.grown G7 hb6.size (fun k hk => by injection hk; omega)
           clear htl7
           obtain ⟨R7, hR7⟩ : ∃ R7, R7 = regOf r (all ++ q) := ⟨_, rfl⟩
           rw [← hR7] at B7
           have HR7l : Hid (R7.length = 8) := by rw [hR7]; exact regOf_len HR.out _
           have HR7a : All 4294967296 R7 := by rw [hR7]; exact regOf_all hra _
           have HR7 := Lib.hid hR7
           have HB7 : Hid (Blk w7 (w.heap.size + 1) 76 ([] ++ R7.map v32 ++ (rest7.map v8 ++ [Value.int .u64 ((past + (all ++ q).length : Nat) : Int)])).toArray) := by
             have h := B7
             unfold hcells at h
             rw [List.append_assoc] at h
             exact h
           clear hR7 B7)
        | (refine wpl_load rfl 73 _ rfl (w.heap.size + 1) 0 rfl 76 [] (R7.map v32) _ HB7.out rfl _ Tryd.underlying73 rfl (by rw [List.length_map, HR7l.out]; kernel_rfl) ?_)
        | (go_at_call 49; (with_reducible refine (bytes_any R7 _ HR7l.out HR7a).mono ?_); rintro e w8 ⟨rfl, hb8⟩
           have BZ8 : Blk w8 w.heap.size 24 ([] ++ (List.replicate 32 0).map v8 ++ []).toArray := BZ7.below hb8 BZ7.lt
           have hb8' := hb7.trans (hb8.mono hb7.size))
        | (refine wpl_store rfl 24 _ _ rfl w.heap.size 0 rfl 24 [] ((List.replicate 32 0).map v8) [] ((bytesR R7).map v8) rfl BZ8 rfl (by rw [List.length_map, bytesR_len, HR7l.out]; rfl) (by rw [List.length_map, bytesR_len, HR7l.out]; kernel_rfl) (v8_one _) ?_; intro w9 B9 O9))
      have e : total r past all = bytesR R7 := by
        rw [HR7.out, HQE.out, HNN.out, HTK.out, padTail_app]
        rfl
      rw [e]
      exact bodyPost_ret (results_cell_row rfl _ _ w.heap.size 24 ((bytesR R7).map v8).toArray (0, 0) _ rfl (by have h9 := B9; rw [List.nil_append, List.append_nil] at h9; exact h9) Tryd.underlying24 rfl (by rw [show ((bytesR R7).map v8).toArray.size = 32 by simp [bytesR_len, HR7l.out]]; kernel_rfl)) rfl ⟨rfl, O9.below hb8' (Nat.le_refl _)⟩
/-- Sum: of bytes. -/
theorem hash_new (w : World) : HashAt (w.alloc (.cells (hcells first (List.replicate 64 0) 0).toArray 76)) w.heap.size first 0 [] :=
  ⟨List.replicate 64 0, Blk.new w 76 _, rfl, All.rep (by decide) 64, rfl⟩
set_option maxRecDepth 100000 in
set_option maxHeartbeats 800000 in
theorem sum_any (p : List Nat) (A : Option Addr) (c : Nat) (w : World) (hp : p.length ≤ 150000000000000) (hpc : p.length ≤ c) (hpa : All 256 p) (hC : C8 w A p.length p) (ht : Tab1 w) (hf : TabF w) (h1 : 1 < w.heap.size) :
    Calls Tryd.prog 14 #[.slice A p.length c] w fun e w' => e = .returned (.agg ((sumOf p).map v8).toArray) ∧ Below w.heap.size w w' := by
  obtain ⟨n, hn⟩ : ∃ n, n = p.length := ⟨_, rfl⟩
  rw [← hn] at hp hpc
  rw [← hn]
  have HN := Lib.hid hn; have HC := Lib.hid hC; have HT := Lib.hid ht; have HF := Lib.hid hf
  clear hn hC ht hf
  obtain ⟨D, hD⟩ : ∃ D, D = sumOf p := ⟨_, rfl⟩
  have hDl : D.length = 32 := by rw [hD]; exact sumOf_len p
  rw [← hD]
  have HD := Lib.hid hD; have HDl := Lib.hid hDl
  clear hD hDl
  go_enter Tryd.func14, Tryd.ntmps14
  go_wp2_with (first
    | (go_at_call 25; (with_reducible refine (new_any _ (HF.out.below ((Below.refl w.heap.size w).alloc (Nat.le_refl _) _) (by omega))).mono ?_); rintro e w1 ⟨rfl, hw1⟩
       have H1 : HashAt w1 (w.heap.size + 1) first 0 [] := by
         rw [← hw1]; exact ⟨List.replicate 64 0, Blk.new_ (w.alloc _) 76 _ _ (by simp), rfl, All.rep (by decide) 64, rfl⟩
       have hb1 : Below w.heap.size w w1 := by rw [← hw1]; exact ((Below.refl w.heap.size w).alloc (Nat.le_refl _) _).alloc (by simp) _
       have BZ1 : Blk w1 w.heap.size 24 (c8 (List.replicate 32 0)) := by rw [← hw1]; exact (Blk.new w 24 _).alloc _
       clear hw1)
    | (go_at_call 18
       refine ((write_c (w.heap.size + 1) 0 first [] p A n c _ first_len first_all rfl (by rw [← HN.out]; simp; omega) H1 All.nil HN.out hpc hpa (HC.out.below hb1)
         (fun h0 b o e h => by obtain ⟨b', o', e', hlt', _⟩ := HC.out.at_ h0; rw [e'] at e; injection e with e; injection e with e; omega) (HT.out.below hb1 h1) (by have := hb1.size; omega) (by omega)).mono ?_); rintro e w2 ⟨rfl, H2, G2⟩
       rw [List.nil_append] at H2
       have BZ2 := BZ1.grown G2 (by simp)
       have hb2 : Below w.heap.size w w2 := hb1.grown G2 hb1.size (fun k hk => by injection hk; omega))
    | (go_at_call 19
       refine ((hsum_any (w.heap.size + 1) 0 first p _ first_len first_all rfl (by rw [← HN.out]; omega) H2 hpa (HT.out.below hb2 h1) (by have := hb2.size; omega)).mono ?_); rintro e w3 ⟨he3, hb3⟩
       rw [show total first 0 p = D from HD.out.symm] at he3
       subst he3
       have BZ3 : Blk w3 w.heap.size 24 ([] ++ (List.replicate 32 0).map v8 ++ []).toArray := BZ2.below hb3 BZ2.lt
       have hb3' := hb2.trans (hb3.mono hb2.size))
    | (refine wpl_store rfl 24 _ _ rfl w.heap.size 0 rfl 24 [] ((List.replicate 32 0).map v8) [] (D.map v8) rfl BZ3 rfl (by rw [List.length_map, HDl.out]; rfl) (by rw [List.length_map, HDl.out]; kernel_rfl) (v8_one D) ?_; intro w9 B9 O9))
  exact bodyPost_ret (results_cell_row rfl _ _ w.heap.size 24 (D.map v8).toArray (0, 0) _ rfl (by have h9 := B9; rw [List.nil_append, List.append_nil] at h9; exact h9) Tryd.underlying24 rfl (by rw [show (D.map v8).toArray.size = 32 by simp [HDl.out]]; kernel_rfl)) rfl ⟨rfl, O9.below hb3' (Nat.le_refl _)⟩
end Go.Proofs.YtfedlgcpgfofjaaDoor.Sha
