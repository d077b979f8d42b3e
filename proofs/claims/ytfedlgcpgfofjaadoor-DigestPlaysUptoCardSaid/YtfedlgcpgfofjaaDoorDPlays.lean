/-
  DigestPlays: every New, Write, Sum, Size, Copy, Save and Load, in every order, of four Hashes beside one another.
-/
import Derived.Test.YtfedlgcpgfofjaaDoorDPlay2
import Derived.Test.YtfedlgcpgfofjaaDoorDPlay3
import Derived.Test.YtfedlgcpgfofjaaDoorDPlay4
import Derived.Test.YtfedlgcpgfofjaaDoorDPlay5
import Derived.Test.YtfedlgcpgfofjaaDoorDPlay6
import Derived.Test.YtfedlgcpgfofjaaDoorDPlay7
import Derived.Test.YtfedlgcpgfofjaaDoorDPlay8
namespace Go.Proofs.YtfedlgcpgfofjaaDoor.Sha
open Go.RowKit Go.Proofs.YtfedlgcpgfofjaaDoorW.PrintWords Go.Proofs.YtfedlgcpgfofjaaDoor.PAll Go.Proofs.YtfedlgcpgfofjaaDoor.Plain
set_option linter.unusedVariables false
set_option linter.unusedSimpArgs false
structure Act64 where
  f0 : Int
  f1 : Int
  f2 : Int
  f3 : List Int
def k64 : Kd Act64 := Kd.iso (Kd.pair (Kd.int .i64) (Kd.pair (Kd.int .i64) (Kd.pair (Kd.int .i64) (Kd.slice 5 (Kd.int .u8))))) (fun x : Act64 => (x.f0, x.f1, x.f2, x.f3))
theorem k64_open {w : World} {x : Act64} {cs : List Value} (h : k64.K w x cs) : ∃ B c, cs = [.int .i64 x.f0, .int .i64 x.f1, .int .i64 x.f2, .slice B x.f3.length c] ∧ x.f3.length ≤ c ∧ (Kd.int .u8).C w B x.f3.length x.f3 := by
  obtain ⟨_, _, rfl, rfl, ⟨_, _, rfl, rfl, ⟨_, _, rfl, rfl, ⟨B, c, rfl, l5, g5⟩⟩⟩⟩ := h
  exact ⟨B, c, rfl, l5, g5⟩
/-- A step of play, whatever it is. -/
theorem play_any (kind hh tt : Int) (p : List Nat) (B : Option Addr) (n c : Nat) (g : Nat → Nat) (R : Nat → List Nat) (P : Nat → Nat) (A : Nat → List Nat) (V : Nat → Value) (base M : Nat) (w : World)
    (hn : n = p.length) (hnc : n ≤ c) (hnM : M + n ≤ 3000000) (hM : 64 ≤ M) (hpa : All 256 p) (hC : ∀ U : World, Below base w U → C8 U B p.length p) (hbase : base ≤ w.heap.size) (hF : Four w base M g R P A V) (hT : Tabs w) (h2b : 2 < base) :
    Calls Tryd.prog 42 #[.agg #[.int .i64 kind, .int .i64 hh, .int .i64 tt, .slice B n c], .agg (hptr g).toArray, .agg (rall R P V).toArray] w (Stepped base (M + n) w g) := by
  obtain ⟨i, hi, hsi⟩ := slot_eq hh
  obtain ⟨j, hj, hsj⟩ := slot_eq tt
  by_cases h1 : kind = 1
  · subst h1; exact play_new hh tt i j p B n c g R P A V base M w hi hj hsi hsj hn hnc hnM hM hpa hC hbase hF hT h2b
  by_cases h2 : kind = 2
  · subst h2; exact play_write hh tt i j p B n c g R P A V base M w hi hj hsi hsj hn hnc hnM hM hpa hC hbase hF hT h2b
  by_cases h3 : kind = 3
  · subst h3; exact play_sum hh tt i j p B n c g R P A V base M w hi hj hsi hsj hn hnc hnM hM hpa hC hbase hF hT h2b
  by_cases h4 : kind = 4
  · subst h4; exact play_size hh tt i j p B n c g R P A V base M w hi hj hsi hsj hn hnc hnM hM hpa hC hbase hF hT h2b
  by_cases h5 : kind = 5
  · subst h5; exact play_copy hh tt i j p B n c g R P A V base M w hi hj hsi hsj hn hnc hnM hM hpa hC hbase hF hT h2b
  by_cases h6 : kind = 6
  · subst h6; exact play_save hh tt i j p B n c g R P A V base M w hi hj hsi hsj hn hnc hnM hM hpa hC hbase hF hT h2b
  by_cases h7 : kind = 7
  · subst h7; exact play_load hh tt i j p B n c g R P A V base M w hi hj hsi hsj hn hnc hnM hM hpa hC hbase hF hT h2b
  by_cases h8 : kind = 8
  · subst h8; exact play_move hh tt i j p B n c g R P A V base M w hi hj hsi hsj hn hnc hnM hM hpa hC hbase hF hT h2b
  exact play_other kind (by omega) hh tt i j p B n c g R P A V base M w hi hj hsi hsj hn hnc hnM hM hpa hC hbase hF hT h2b
/-- How many bytes the first k steps bring. -/
def bytesTo (l : List Act64) (k : Nat) : Nat := ((l.take k).map fun x => x.f3.length).sum
theorem bytesTo_succ (l : List Act64) (k : Nat) (h : k < l.length) : bytesTo l (k + 1) = bytesTo l k + (l[k]'h).f3.length := by
  unfold bytesTo
  rw [List.take_succ_eq_append_getElem h, List.map_append, List.sum_append]
  simp
theorem bytesTo_le (l : List Act64) (k : Nat) : bytesTo l k ≤ (l.map fun x => x.f3.length).sum := by
  unfold bytesTo
  conv => rhs; rw [← List.take_append_drop k l, List.map_append, List.sum_append]
  omega
theorem hash_ne {w : World} {g q t past : Nat} {r all : List Nat} {cs : Array Value} (h : HashAt w g r past all) (hB : Blk w q t cs) (ht : t ≠ 76) : g ≠ q := by
  obtain ⟨rest, h1, _⟩ := h
  rintro rfl
  unfold Blk at h1 hB
  rw [h1] at hB
  injection hB with hB
  injection hB with _ hB
  exact ht hB.symm
theorem run_neq24P (D : List Nat) (hD : D.length = 32) (W : World) : (binOp .neq 24 (.agg (D.map v8).toArray) (.agg (D.map v8).toArray)).run Tryd.prog W = .ok (.bool false) W := by
  obtain ⟨i, hi⟩ : ∃ i, Tryd.prog.info? 5 = some i := by
    have := info5_size
    cases h : Tryd.prog.info? 5 with
    | none => rw [h] at this; cases this
    | some i => exact ⟨i, rfl⟩
  have h := run_equalIn_array (P := Tryd.prog) W 9999 (D.map v8).toArray (D.map v8).toArray Tryd.underlying24 hi
  rw [cells5, run_eqItems_bytes 9998 D D W _ (fun i hi => by have := List.mem_range.1 hi; omega)] at h
  have e : ((List.range 32).all fun i => decide (D.getD i 0 = D.getD i 0)) = true := by simp
  rw [e] at h
  simp only [binOp]
  simp [Op.equal, Op.maxDepth, h]
def pick4 {α : Type} (a b c d : α) : Nat → α
  | 0 => a | 1 => b | 2 => c | _ => d
/-- The first Hashes. -/
def RF : Nat → List Nat := fun _ => first
def PF : Nat → Nat := fun _ => 0
def AF : Nat → List Nat := fun _ => []
def VF : Nat → Value := fun _ => .slice none 0 0
theorem rnew_lit (w : World) : Calls Tryd.prog 41 #[] w fun e w' => e = .returned (.agg #[.int .u32 1779033703, .int .u32 3144134277, .int .u32 1013904242, .int .u32 2773480762, .int .u32 1359893119, .int .u32 2600822924, .int .u32 528734635, .int .u32 1541459225, .int .u64 0, .slice none 0 0]) ∧ Below w.heap.size w w' := rnew_any w
/-- What the loop over the script keeps. -/
structure Play (w0 : World) (base gh gr M : Nat) (g : Nat → Nat) (R : Nat → List Nat) (P : Nat → Nat) (A : Nat → List Nat) (V : Nat → Value) (w : World) : Prop where
  four : Four w base M g R P A V
  bh : Blk w gh 54 (hptr g).toArray
  br : Blk w gr 60 (rall R P V).toArray
  bel : Below base w0 w
theorem Play.keep {w0 w w' : World} {base gh gr M : Nat} {g : Nat → Nat} {R : Nat → List Nat} {P : Nat → Nat} {A : Nat → List Nat} {V : Nat → Value} (h : Play w0 base gh gr M g R P A V w) (hb : Below w.heap.size w w') (hs : base ≤ w.heap.size) : Play w0 base gh gr M g R P A V w' :=
  ⟨h.four.keep hb, h.bh.below hb h.bh.lt, h.br.below hb h.br.lt, h.bel.trans (hb.mono hs)⟩
/-- The blocks that a turn of the loop reads. -/
def HeldS (ab off gh gr : Nat) (cells h r : List Value) (w : World) : Prop := w.rangeAt ab off cells ∧ Blk w gh 54 h.toArray ∧ Blk w gr 60 r.toArray
theorem HeldS.keep {ab off gh gr : Nat} {cells h r : List Value} {w w' : World} (H : HeldS ab off gh gr cells h r w) (hA : w'.heap[ab]? = w.heap[ab]?) (hH : w'.heap[gh]? = w.heap[gh]?) (hR : w'.heap[gr]? = w.heap[gr]?) : HeldS ab off gh gr cells h r w' :=
  ⟨fun j v hv => (World.cell?_of_block (a := ⟨ab, off + j, none⟩) hA).trans (H.1 j v hv), hH.trans H.2.1, hR.trans H.2.2⟩
theorem Four.onlyB {w w' : World} {base M q t : Nat} {g : Nat → Nat} {R : Nat → List Nat} {P : Nat → Nat} {A : Nat → List Nat} {V : Nat → Value} {cs : Array Value} (F : Four w base M g R P A V) (hB : Blk w q t cs) (h1 : t ≠ 76) (h2 : 5 ≠ t) (O : Only q w w') : Four w' base M g R P A V :=
  ⟨fun k hk => (F.each k hk).keep (O.block _ (hash_ne (F.each k hk).hash hB h1)) (fun x hx => O.block x (fun e => (F.each k hk).own.ne hB h2 (e ▸ hx))), F.ne⟩
def HeldQ (ga gb : Nat) (h r : List Value) (w : World) : Prop := Blk w ga 54 h.toArray ∧ Blk w gb 60 r.toArray
set_option maxRecDepth 100000 in
set_option maxHeartbeats 8000000 in
theorem law_plays (l : List Act64) (A0 : Option Addr) (N c0 : Nat) (w : World) (hN : N = l.length) (hNm : N ≤ 1048576) (hby : (l.map fun x => x.f3.length).sum ≤ 1048576)
    (hel : ∀ (k : Nat) (x : Act64), l[k]? = some x → ∃ ab ao B c, A0 = some ⟨ab, ao, none⟩ ∧ w.rangeAt ab (ao + k * 4) [.int .i64 x.f0, .int .i64 x.f1, .int .i64 x.f2, .slice B x.f3.length c] ∧ x.f3.length ≤ c ∧ C8 w B x.f3.length (toN x.f3) ∧ All 256 (toN x.f3)) (hT : Tabs w) :
    Calls Tryd.prog 11 #[.slice A0 N c0] w fun e w' => e = .returned (.bool true) ∧ Below w.heap.size w w' := by
  obtain ⟨base, hbase⟩ : ∃ base, base = w.heap.size := ⟨_, rfl⟩
  have h2b : 2 < base := by rw [hbase]; exact hT.2.2.2
  have hlive : ∀ (V : World), Below base w V → Calls Tryd.prog 15 #[] V fun e w' => e = .returned (.bool true) ∧ Below V.heap.size V w' := fun V hb => by
    rw [hbase] at hb
    exact live_any V (hT.below hb).1 (hT.below hb).2.2.1 (by have := (hT.below hb).2.2.2; omega)
  have hTb : ∀ V : World, Below base w V → Tabs V := fun V hb => hT.below (hbase ▸ hb)
  have HB := Lib.hid hbase; have HT := Lib.hid hTb; have HEL := Lib.hid hel; have HN := Lib.hid hN; have HBY := Lib.hid hby; have HLIVE := Lib.hid hlive
  have hw0 : base ≤ w.heap.size := by omega
  have b0 : Below base w w := Below.refl _ _
  have t0 := (hTb w b0).2.2.1
  clear hT hTb hel hN hby hlive hbase
  go_enter Tryd.func11, Tryd.ntmps11
  go_upto_region 3 with (first
    | (go_at_call 25; (with_reducible refine (new_any w t0).mono ?_); rintro e w1 ⟨rfl, hww1⟩
       have c1 : Below w.heap.size w w1 := by rw [← hww1]; exact (Below.refl _ _).alloc (Nat.le_refl _) _
       have N01 : HashAt w1 w.heap.size first 0 [] := by rw [← hww1]; exact hash_new w
       have z1 : w.heap.size < w1.heap.size := N01.lt
       have b1 : Below base w w1 := b0.trans (c1.mono (by omega))
       have t1 := (HT.out w1 b1).2.2.1
       clear hww1 t0)
    | (go_at_call 25; (with_reducible refine (new_any w1 t1).mono ?_); rintro e w2 ⟨rfl, hww2⟩
       have c2 : Below w1.heap.size w1 w2 := by rw [← hww2]; exact (Below.refl _ _).alloc (Nat.le_refl _) _
       have N12 : HashAt w2 w1.heap.size first 0 [] := by rw [← hww2]; exact hash_new w1
       have N02 := N01.below c2
       have z2 : w1.heap.size < w2.heap.size := N12.lt
       have b2 : Below base w w2 := b1.trans (c2.mono (by omega))
       have t2 := (HT.out w2 b2).2.2.1
       clear hww2 t1)
    | (go_at_call 25; (with_reducible refine (new_any w2 t2).mono ?_); rintro e w3 ⟨rfl, hww3⟩
       have c3 : Below w2.heap.size w2 w3 := by rw [← hww3]; exact (Below.refl _ _).alloc (Nat.le_refl _) _
       have N23 : HashAt w3 w2.heap.size first 0 [] := by rw [← hww3]; exact hash_new w2
       have N03 := N02.below c3
       have N13 := N12.below c3
       have z3 : w2.heap.size < w3.heap.size := N23.lt
       have b3 : Below base w w3 := b2.trans (c3.mono (by omega))
       have t3 := (HT.out w3 b3).2.2.1
       clear hww3 t2)
    | (go_at_call 25; (with_reducible refine (new_any w3 t3).mono ?_); rintro e w4 ⟨rfl, hww4⟩
       have c4 : Below w3.heap.size w3 w4 := by rw [← hww4]; exact (Below.refl _ _).alloc (Nat.le_refl _) _
       have N34 : HashAt w4 w3.heap.size first 0 [] := by rw [← hww4]; exact hash_new w3
       have N04 := N03.below c4
       have N14 := N13.below c4
       have N24 := N23.below c4
       have z4 : w3.heap.size < w4.heap.size := N34.lt
       have b4 : Below base w w4 := b3.trans (c4.mono (by omega))
       have t4 := (HT.out w4 b4).2.2.1
       clear hww4 t3)
    | (refine wpl_store rfl 54 _ _ rfl w4.heap.size 0 rfl 54 [] z54 [] (hptr (pick4 w.heap.size w1.heap.size w2.heap.size w3.heap.size)) rfl (Blk.new w4 54 z54.toArray) rfl rfl (by kernel_rfl) (hptr_one _) ?_
       intro w5 S5 O5
       rw [List.nil_append, List.append_nil] at S5
       have c5 : Below w4.heap.size w4 w5 := O5.below ((Below.refl _ _).alloc (Nat.le_refl _) _) (Nat.le_refl _)
       have N05 := N04.below c5
       have N15 := N14.below c5
       have N25 := N24.below c5
       have N35 := N34.below c5
       have z5 : w4.heap.size < w5.heap.size := S5.lt
       have b5 : Below base w w5 := b4.trans (c5.mono (by omega))
       clear O5 t4)
    | (go_at_call 41; (with_reducible refine (rnew_lit w5).mono ?_); rintro e w6 ⟨rfl, c6⟩
       have N06 := N05.below c6
       have N16 := N15.below c6
       have N26 := N25.below c6
       have N36 := N35.below c6
       have S6 := S5.below c6 S5.lt
       have z6 := c6.size
       have b6 : Below base w w6 := b5.trans (c6.mono (by omega))
       clear c6 N05 N15 N25 N35 S5)
    | (go_at_call 41; (with_reducible refine (rnew_lit w6).mono ?_); rintro e w7 ⟨rfl, c7⟩
       have N07 := N06.below c7
       have N17 := N16.below c7
       have N27 := N26.below c7
       have N37 := N36.below c7
       have S7 := S6.below c7 S6.lt
       have z7 := c7.size
       have b7 : Below base w w7 := b6.trans (c7.mono (by omega))
       clear c7 N06 N16 N26 N36 S6)
    | (go_at_call 41; (with_reducible refine (rnew_lit w7).mono ?_); rintro e w8 ⟨rfl, c8⟩
       have N08 := N07.below c8
       have N18 := N17.below c8
       have N28 := N27.below c8
       have N38 := N37.below c8
       have S8 := S7.below c8 S7.lt
       have z8 := c8.size
       have b8 : Below base w w8 := b7.trans (c8.mono (by omega))
       clear c8 N07 N17 N27 N37 S7)
    | (go_at_call 41; (with_reducible refine (rnew_lit w8).mono ?_); rintro e w9 ⟨rfl, c9⟩
       have N09 := N08.below c9
       have N19 := N18.below c9
       have N29 := N28.below c9
       have N39 := N38.below c9
       have S9 := S8.below c9 S8.lt
       have z9 := c9.size
       have b9 : Below base w w9 := b8.trans (c9.mono (by omega))
       clear c9 N08 N18 N28 N38 S8)
    | (refine wpl_store rfl 60 _ _ rfl w9.heap.size 0 rfl 60 [] z60 [] (rall RF PF VF) rfl (Blk.new w9 60 z60.toArray) rfl rfl (by kernel_rfl) (rall_one _ _ _ (fun _ _ => rfl)) ?_
       intro wA SA OA
       rw [List.nil_append, List.append_nil] at SA
       have cA : Below w9.heap.size w9 wA := OA.below ((Below.refl _ _).alloc (Nat.le_refl _) _) (Nat.le_refl _)
       have N0A := N09.below cA
       have N1A := N19.below cA
       have N2A := N29.below cA
       have N3A := N39.below cA
       have SH := S9.below cA S9.lt
       have zA : w9.heap.size < wA.heap.size := SA.lt
       have bA : Below base w wA := b9.trans (cA.mono (by omega))
       clear OA))
  have F0 : Four wA base 64 (pick4 w.heap.size w1.heap.size w2.heap.size w3.heap.size) RF PF AF VF := by
    refine ⟨fun k hk => ?_, fun j k hj hk hne => ?_⟩
    · refine four_cases (P := fun k => Pair wA base 64 (pick4 w.heap.size w1.heap.size w2.heap.size w3.heap.size k) (RF k) (PF k) (AF k) (VF k)) hk ?_ ?_ ?_ ?_
      · exact ⟨hw0, N0A, first_len, first_all, rfl, Nat.zero_le _, Nat.zero_le _, All.nil, Own.nil _ _⟩
      · exact ⟨show base ≤ w1.heap.size by omega, N1A, first_len, first_all, rfl, Nat.zero_le _, Nat.zero_le _, All.nil, Own.nil _ _⟩
      · exact ⟨show base ≤ w2.heap.size by omega, N2A, first_len, first_all, rfl, Nat.zero_le _, Nat.zero_le _, All.nil, Own.nil _ _⟩
      · exact ⟨show base ≤ w3.heap.size by omega, N3A, first_len, first_all, rfl, Nat.zero_le _, Nat.zero_le _, All.nil, Own.nil _ _⟩
    · rcases j with _ | _ | _ | _ | j <;> first | omega | (rcases k with _ | _ | _ | _ | k <;> first | omega | (simp only [pick4]; omega))
  obtain ⟨gh, hgh⟩ : ∃ x, x = w4.heap.size := ⟨_, rfl⟩
  obtain ⟨gr, hgr⟩ : ∃ x, x = w9.heap.size := ⟨_, rfl⟩
  rw [← hgh, ← hgr]
  rw [← hgh] at SH
  rw [← hgr] at SA
  have PL0 : Play w base gh gr 64 (pick4 w.heap.size w1.heap.size w2.heap.size w3.heap.size) RF PF AF VF wA := ⟨F0, SH, SA, bA⟩
  have gb1 : base ≤ gh := by omega
  have gb2 : base ≤ gr := by omega
  have gb3 : gh < gr := by omega
  have sA : base ≤ wA.heap.size := by omega
  have PLH := Lib.hid PL0
  clear F0 SH SA bA PL0 N0A N1A N2A N3A cA hgh hgr N04 N14 N24 N34 N09 N19 N29 N39 S9 b1 b2 b3 b4 b5 b6 b7 b8 b9 c1 c2 c3 c4 c5 b0 z1 z2 z3 z4 z5 z6 z7 z8 z9 zA
  go_wp2
  go_loopw [5] (fun v wr => ∃ (k M : Nat) (g : Nat → Nat) (R : Nat → List Nat) (P : Nat → Nat) (A : Nat → List Nat) (V : Nat → Value), k ≤ N ∧ v = .int .i64 (k : Int) ∧ M = 64 + bytesTo l k ∧ base ≤ wr.heap.size ∧ Play w base gh gr M g R P A V wr) (fun v _ => N - (intOf v).toNat)
  case atStart => exact ⟨0, 64, _, _, _, _, _, by omega, rfl, rfl, sA, PLH.out⟩
  case round =>
    clear PLH sA
    obtain ⟨k, M, g, R, P, A, V, hk, rfl, hM, sr, PL⟩ := hrel
    have HM := Lib.hid hM
    have hM1 : 64 ≤ M := by omega
    have hM2 : M ≤ 1048640 := by have := bytesTo_le l k; have := HBY.out; omega
    clear hM
    by_cases hlt : k < N
    · obtain ⟨x, hx⟩ : ∃ x, l[k]? = some x := ⟨_, List.getElem?_eq_getElem (by rw [← HN.out]; exact hlt)⟩
      obtain ⟨ab, ao, B, c, hA0, hrng, hxc, hxC, hxa⟩ := HEL.out k x hx
      subst hA0
      have hsucc : bytesTo l (k + 1) = bytesTo l k + x.f3.length := by
        obtain ⟨h1, h2⟩ := List.getElem?_eq_some_iff.1 hx
        rw [bytesTo_succ l k h1, h2]
      have hMn : M + x.f3.length ≤ 1048640 := by have := bytesTo_le l (k + 1); have := HBY.out; have := HM.out; omega
      have hab : ab < w.heap.size := World.block_lt_of_cell? w _ (hrng 0 _ rfl)
      have habb : ab < base := by have := HB.out; omega
      obtain ⟨n, hn⟩ : ∃ n, n = x.f3.length := ⟨_, rfl⟩
      rw [← hn] at hrng hxc hxC hMn hsucc
      have hnl : n = (toN x.f3).length := by rw [hn, toN_len]
      have hC8 : ∀ U : World, Below base wr U → C8 U B (toN x.f3).length (toN x.f3) := fun U hb => by
        rw [← hnl]
        have hbu : Below base w U := PL.bel.trans hb
        exact hxC.below (HB.out ▸ hbu)
      obtain ⟨q, hq⟩ : ∃ q, q = toN x.f3 := ⟨_, rfl⟩
      rw [← hq] at hnl hC8 hxa
      obtain ⟨y0, hy0⟩ : ∃ y, y = x.f0 := ⟨_, rfl⟩
      obtain ⟨y1, hy1⟩ : ∃ y, y = x.f1 := ⟨_, rfl⟩
      obtain ⟨y2, hy2⟩ : ∃ y, y = x.f2 := ⟨_, rfl⟩
      rw [← hy0, ← hy1, ← hy2] at hrng
      have hrr : wr.rangeAt ab (ao + k * 4) [.int .i64 y0, .int .i64 y1, .int .i64 y2, .slice B n c] := fun j v hv => (PL.bel.cell (p := ⟨ab, ao + k * 4 + j, none⟩) habb).trans (hrng j v hv)
      have hplay : ∀ U : World, U.heap.size = U.heap.size → Below wr.heap.size wr U → Calls Tryd.prog 42 #[.agg #[.int .i64 y0, .int .i64 y1, .int .i64 y2, .slice B n c], .agg (hptr g).toArray, .agg (rall R P V).toArray] U (Stepped base (M + n) U g) := fun U _ hb =>
        play_any y0 y1 y2 q B n c g R P A V base M U hnl hxc (by omega) hM1 hxa (fun U' hb' => hC8 U' ((hb.mono sr).trans hb')) (Nat.le_trans sr hb.size) (PL.four.keep hb) (HT.out U (PL.bel.trans (hb.mono sr))) h2b
      have HPLAY := Lib.hid hplay; have HSUCC := Lib.hid hsucc; have HRR := Lib.hid hrr; have HPL := Lib.hid PL
      have HRL := Lib.hid (rall_len R P V PL.four.lens)
      have k0 : (0 : Int) ≤ (k : Int) := by omega
      have k1 : (k : Int) < (N : Int) := by omega
      have glt : gh < wr.heap.size := PL.bh.lt
      have grt : gr < wr.heap.size := PL.br.lt
      have hng : ∀ q, (q = gh ∨ q = gr ∨ q < base ∨ wr.heap.size ≤ q) → ∀ k, k < 4 → g k ≠ q := fun q hq k hk => by
        have hp := PL.four.each k hk
        rcases hq with rfl | rfl | h | h
        · exact hash_ne hp.hash PL.bh (by decide)
        · exact hash_ne hp.hash PL.br (by decide)
        · have := hp.le; omega
        · have := hp.hash.lt; omega
      have NG := Lib.hid hng
      clear hng hplay hsucc hrr PL hx hxC hxa hC8 hnl hq hy0 hy1 hy2 hn hrng hM2
      go_upto_region 6 with fail
      go_cut [6, 7, 8] from 20 to 40 (fun s6 s7 s8 wc => ∃ (ga gb : Nat) (g' : Nat → Nat) (R' : Nat → List Nat) (P' : Nat → Nat) (A' : Nat → List Nat) (V' : Nat → Value), s6 = .pointer (some ⟨ga, 0, none⟩) ∧ s7 = .pointer (some ⟨gb, 0, none⟩) ∧ s8 = .bool true ∧ Blk wc ga 54 (hptr g').toArray ∧ Blk wc gb 60 (rall R' P' V').toArray ∧ Four wc base (M + n) g' R' P' A' V' ∧ Blk wc gh 54 (hptr g).toArray ∧ Blk wc gr 60 (rall R P V).toArray ∧ Below base w wc ∧ ga ≠ gh ∧ gb ≠ gr ∧ wr.heap.size ≤ ga ∧ wr.heap.size ≤ gb ∧ base ≤ wc.heap.size)
      case first =>
        refine wp_region_noPanic ?_
        refine wp_region_held_drew (S := (HeldS ab (ao + k * 4) gh gr [.int .i64 y0, .int .i64 y1, .int .i64 y2, .slice B n c] (hptr g) (rall R P V))) (by kernel_rfl) ?_ (fun hHeld => ?_)
        · exact ⟨HRR.out, HPL.out.bh, HPL.out.br⟩
        refine wpAnyH_take (i := 0) (oi := ⟨some 27, _, _, _, _, _⟩) (v := ?_) rfl (by kernel_rfl) (by kernel_rfl) (by kernel_rfl) (fun _ _ _ h => h) (Or.inl ⟨by rfl, ?_⟩) hHeld ?_
        rotate_left
        · intro wx hSw
          go_simp
          all_goals (with_reducible rfl)
        try simp only [Act.put, List.setIfInBounds_toArray, List.set_cons_zero, List.set_cons_succ]
        refine wpAnyH_take (i := 1) (oi := ⟨some 28, _, _, _, _, _⟩) (v := ?_) rfl (by kernel_rfl) (by kernel_rfl) (by kernel_rfl) (fun _ _ _ h => h) (Or.inl ⟨by rfl, ?_⟩) hHeld ?_
        rotate_left
        · intro wx hSw
          go_simp
          all_goals (with_reducible rfl)
        try simp only [Act.put, List.setIfInBounds_toArray, List.set_cons_zero, List.set_cons_succ]
        refine wpAnyH_take (i := 2) (oi := ⟨some 29, _, _, _, _, _⟩) (v := ?_) rfl (by kernel_rfl) (by kernel_rfl) (by kernel_rfl) (fun _ _ _ h => h) (Or.inl ⟨by rfl, ?_⟩) hHeld ?_
        rotate_left
        · intro wx hSw
          go_simp
          all_goals (with_reducible rfl)
        try simp only [Act.put, List.setIfInBounds_toArray, List.set_cons_zero, List.set_cons_succ]
        refine wpAnyH_take (i := 3) (oi := ⟨some 30, _, _, _, _, _⟩) (v := _) rfl (by kernel_rfl) (by kernel_rfl) (by kernel_rfl) (fun _ _ _ h => h) (yieldsIf_load_mid (by rfl) 64 _ rfl ab (ao + k * 4) rfl [.int .i64 y0, .int .i64 y1, .int .i64 y2, .slice B n c] _ (fun wx hSw => hSw.1) Tryd.underlying64 rfl (by kernel_rfl)) hHeld ?_
        try simp only [Act.put, List.setIfInBounds_toArray, List.set_cons_zero, List.set_cons_succ]
        refine wpAnyH_take (i := 4) (oi := ⟨some 31, _, _, _, _, _⟩) (v := _) rfl (by kernel_rfl) (by kernel_rfl) (by kernel_rfl) (fun _ _ _ h => h) (yieldsIf_load_mid (by rfl) 54 _ rfl gh 0 rfl (hptr g) _ (fun wx hSw => blk_range hSw.2.1) Tryd.underlying54 rfl (by kernel_rfl)) hHeld ?_
        try simp only [Act.put, List.setIfInBounds_toArray, List.set_cons_zero, List.set_cons_succ]
        refine wpAnyH_take (i := 5) (oi := ⟨some 32, _, _, _, _, _⟩) (v := _) rfl (by kernel_rfl) (by kernel_rfl) (by kernel_rfl) (fun _ _ _ h => h) (yieldsIf_load_mid (by rfl) 60 _ rfl gr 0 rfl (rall R P V) _ (fun wx hSw => blk_range hSw.2.2) Tryd.underlying60 rfl (by rw [HRL.out]; kernel_rfl)) hHeld ?_
        try simp only [Act.put, List.setIfInBounds_toArray, List.set_cons_zero, List.set_cons_succ]
        have bw : Below wr.heap.size wr wr.drew := ⟨rfl, rfl, rfl, Nat.le_refl _, fun _ _ => rfl⟩
        refine wpAnyH_ready (rs := [6, 11, 12]) (by kernel_rfl) (by simp) ?_
        refine AllReadyH.cons (o := ⟨some 33, _, _, _, _, _⟩) rfl (fun K hK => ?_) (AllReadyH.cons (o := ⟨some 6, _, _, _, _, _⟩) rfl (fun K hK => ?_) (AllReadyH.cons (o := ⟨some 7, _, _, _, _, _⟩) rfl (fun K hK => ?_) AllReadyH.nil))
        · go_simp
          refine (HPLAY.out wr.drew rfl bw).mono ?_
          rintro e w2 ⟨g', R', P', A', V', rfl, F2, hb2, hk2⟩
          have bC2 : Below base w w2 := (HPL.out.bel.trans (bw.mono sr)).trans hb2
          have sW2 : wr.heap.size ≤ w2.heap.size := Nat.le_trans bw.size hb2.size
          have sZ : wr.heap.size ≤ wr.drew.heap.size := bw.size
          refine hK.out _ _ (HeldS.keep hHeld (hk2 _ (by omega) (NG.out _ (.inr (.inr (.inl habb))))) (hk2 _ (by omega) (NG.out _ (.inl rfl))) (hk2 _ (by omega) (NG.out _ (.inr (.inl rfl))))) (fun hHeld => ?_)
          clear hK K
          try simp only [Act.put, List.setIfInBounds_toArray, List.set_cons_zero, List.set_cons_succ]
          refine wpAnyH_take (i := 7) (oi := ⟨some 26, _, _, _, _, _⟩) (v := ?_) rfl (by kernel_rfl) (by kernel_rfl) (by kernel_rfl) (fun _ _ _ h => h) (Or.inl ⟨by rfl, ?_⟩) hHeld ?_
          rotate_left
          · intro wx hSw
            go_simp
            all_goals (with_reducible rfl)
          try simp only [Act.put, List.setIfInBounds_toArray, List.set_cons_zero, List.set_cons_succ]
          refine wpAnyH_take (i := 8) (oi := ⟨some 34, _, _, _, _, _⟩) (v := ?_) rfl (by kernel_rfl) (by kernel_rfl) (by kernel_rfl) (fun _ _ _ h => h) (Or.inl ⟨by rfl, ?_⟩) hHeld ?_
          rotate_left
          · intro wx hSw
            go_simp
            all_goals (with_reducible rfl)
          try simp only [Act.put, List.setIfInBounds_toArray, List.set_cons_zero, List.set_cons_succ]
          refine wpAnyH_take (i := 9) (oi := ⟨some 35, _, _, _, _, _⟩) (v := ?_) rfl (by kernel_rfl) (by kernel_rfl) (by kernel_rfl) (fun _ _ _ h => h) (Or.inl ⟨by rfl, ?_⟩) hHeld ?_
          rotate_left
          · intro wx hSw
            go_simp
            all_goals (with_reducible rfl)
          try simp only [Act.put, List.setIfInBounds_toArray, List.set_cons_zero, List.set_cons_succ]
          refine wpAnyH_take (i := 10) (oi := ⟨some 36, _, _, _, _, _⟩) (v := ?_) rfl (by kernel_rfl) (by kernel_rfl) (by kernel_rfl) (fun _ _ _ h => h) (Or.inl ⟨by rfl, ?_⟩) hHeld ?_
          rotate_left
          · intro wx hSw
            go_simp
            all_goals (with_reducible rfl)
          try simp only [Act.put, List.setIfInBounds_toArray, List.set_cons_zero, List.set_cons_succ]
          refine wpAnyH_ready (rs := [11, 12]) (by kernel_rfl) (by simp) ?_
          refine AllReadyH.cons (o := ⟨some 6, _, _, _, _, _⟩) rfl (fun K hK => ?_) (AllReadyH.cons (o := ⟨some 7, _, _, _, _, _⟩) rfl (fun K hK => ?_) AllReadyH.nil)
          · go_simp
            have cA1 : Below w2.heap.size w2 (w2.alloc (.cells z54.toArray 54)) := (Below.refl _ _).alloc (Nat.le_refl _) _
            have nA1 : Blk (w2.alloc (.cells z54.toArray 54)) (w2.heap.size) 54 z54.toArray := Blk.new_ w2 54 _ _ (by first | rfl | simp)
            have szA1 : wr.heap.size ≤ w2.heap.size := sW2
            have FA1 := F2.keep cA1
            have bCA1 : Below base w (w2.alloc (.cells z54.toArray 54)) := bC2.trans (cA1.mono (Nat.le_trans sr szA1))
            have syA1 : wr.heap.size ≤ (w2.alloc (.cells z54.toArray 54)).heap.size := Nat.le_trans szA1 cA1.size
            have leA1 : wr.heap.size ≤ w2.heap.size := by first | exact szA1 | (have h := szA1; simp at h; omega) | omega
            refine hK.out _ _ (HeldS.keep hHeld (cA1.block _ (by omega)) (cA1.block _ (by omega)) (cA1.block _ (by omega))) (fun hHeld => ?_)
            clear hK K
            try simp only [Act.put, List.setIfInBounds_toArray, List.set_cons_zero, List.set_cons_succ]
            refine wpAnyH_ready (rs := [12]) (by kernel_rfl) (by simp) ?_
            refine AllReadyH.cons (o := ⟨some 7, _, _, _, _, _⟩) rfl (fun K hK => ?_) AllReadyH.nil
            · go_simp
              have cB2 : Below (w2.alloc (.cells z54.toArray 54)).heap.size (w2.alloc (.cells z54.toArray 54)) ((w2.alloc (.cells z54.toArray 54)).alloc (.cells z60.toArray 60)) := (Below.refl _ _).alloc (Nat.le_refl _) _
              have nB2 : Blk ((w2.alloc (.cells z54.toArray 54)).alloc (.cells z60.toArray 60)) (w2.heap.size + 1) 60 z60.toArray := Blk.new_ (w2.alloc (.cells z54.toArray 54)) 60 _ _ (by first | rfl | simp)
              have szB2 : wr.heap.size ≤ (w2.alloc (.cells z54.toArray 54)).heap.size := syA1
              have FB2 := FA1.keep cB2
              have bCB2 : Below base w ((w2.alloc (.cells z54.toArray 54)).alloc (.cells z60.toArray 60)) := bCA1.trans (cB2.mono (Nat.le_trans sr szB2))
              have syB2 : wr.heap.size ≤ ((w2.alloc (.cells z54.toArray 54)).alloc (.cells z60.toArray 60)).heap.size := Nat.le_trans szB2 cB2.size
              have BAB2 := nA1.below cB2 nA1.lt
              have leB2 : wr.heap.size ≤ w2.heap.size + 1 := by first | exact szB2 | (have h := szB2; simp at h; omega) | omega
              refine hK.out _ _ (HeldS.keep hHeld (cB2.block _ (by omega)) (cB2.block _ (by omega)) (cB2.block _ (by omega))) (fun hHeld => ?_)
              clear hK K
              try simp only [Act.put, List.setIfInBounds_toArray, List.set_cons_zero, List.set_cons_succ]
              obtain ⟨wl, hwl⟩ : ∃ X : World, X = ((w2.alloc (.cells z54.toArray 54)).alloc (.cells z60.toArray 60)) := ⟨_, rfl⟩
              have FL := FB2
              have bL := bCB2
              have LA := BAB2
              have LB := nB2
              have lea := leA1
              have leb := leB2
              have gab : (w2.heap.size) ≠ (w2.heap.size + 1) := fun e => by
                have h1 := LA
                have h2 := LB
                unfold Blk at h1 h2
                rw [e, h2] at h1
                injection h1 with h1
                injection h1 with _ h1
                exact absurd h1 (by decide)
              have RL := rall_len R' P' V' FL.lens
              have RO := rall_one R' P' V' FL.ones
              have szl : wr.heap.size ≤ ((w2.alloc (.cells z54.toArray 54)).alloc (.cells z60.toArray 60)).heap.size := syB2
              refine wpAnyH_ready (rs := [13]) (by kernel_rfl) (by simp) ?_
              refine AllReadyH.cons (o := ⟨none, _, _, _, _, _⟩) rfl (fun K hK => ?_) AllReadyH.nil
              refine wpr_if (by rfl) ?_
              refine wpr_store 54 _ _ rfl ((w2.heap.size)) 0 rfl 54 [] z54 [] (hptr g') rfl (by rw [List.nil_append, List.append_nil]; exact LA) rfl rfl (by kernel_rfl) (hptr_one _) ?_
              intro wS6 S6 O6
              refine hK.out _ _ (HeldS.keep hHeld (O6.block _ (by omega)) (O6.block _ (by omega)) (O6.block _ (by omega))) (fun hHeld => ?_)
              clear hK K
              try simp only [Act.put, List.setIfInBounds_toArray, List.set_cons_zero, List.set_cons_succ]
              refine wpAnyH_ready (rs := [14]) (by kernel_rfl) (by simp) ?_
              refine AllReadyH.cons (o := ⟨none, _, _, _, _, _⟩) rfl (fun K hK => ?_) AllReadyH.nil
              refine wpr_if (by rfl) ?_
              refine wpr_store 60 _ _ rfl ((w2.heap.size + 1)) 0 rfl 60 [] z60 [] (rall R' P' V') rfl (by rw [List.nil_append, List.append_nil]; exact LB.only O6 (fun e => gab e.symm)) rfl (by rw [RL]; rfl) (by rw [RL]; kernel_rfl) RO ?_
              intro wS7 S7 O7
              refine hK.out _ _ (HeldS.keep hHeld (O7.block _ (by omega)) (O7.block _ (by omega)) (O7.block _ (by omega))) (fun hHeld => ?_)
              clear hK K
              try simp only [Act.put, List.setIfInBounds_toArray, List.set_cons_zero, List.set_cons_succ]
              refine wpAnyH_take (i := 15) (oi := ⟨some 8, _, _, _, _, _⟩) (v := ?_) rfl (by kernel_rfl) (by kernel_rfl) (by kernel_rfl) (fun _ _ _ h => h) (Or.inl ⟨by rfl, ?_⟩) hHeld ?_
              rotate_left
              · intro wx hSw
                go_simp
                all_goals (with_reducible rfl)
              try simp only [Act.put, List.setIfInBounds_toArray, List.set_cons_zero, List.set_cons_succ]
              refine wpAnyH_done (by kernel_rfl) ?_ _
              refine NoPanic.normal ?_
              rw [List.nil_append, List.append_nil] at S6 S7
              have F6 := FL.onlyB LA (by decide) (by decide) O6
              have LB6 := LB.only O6 (fun e => gab e.symm)
              have F7 := F6.onlyB LB6 (by decide) (by decide) O7
              have S6' := S6.only O7 gab
              have b7 : Below base w wS7 := O7.below (O6.below bL (by omega)) (by omega)
              have sz7 : base ≤ wS7.heap.size := by rw [O7.size, O6.size]; exact Nat.le_trans sr szl
              go_wp2_with fail
              go_meet
              case rel => exact ⟨_, _, g', R', P', A', V', rfl, rfl, rfl, S6', S7, F7, hHeld.2.1, hHeld.2.2, b7, by omega, by omega, lea, leb, sz7⟩
          · go_simp
            have cB1 : Below w2.heap.size w2 (w2.alloc (.cells z60.toArray 60)) := (Below.refl _ _).alloc (Nat.le_refl _) _
            have nB1 : Blk (w2.alloc (.cells z60.toArray 60)) (w2.heap.size) 60 z60.toArray := Blk.new_ w2 60 _ _ (by first | rfl | simp)
            have szB1 : wr.heap.size ≤ w2.heap.size := sW2
            have FB1 := F2.keep cB1
            have bCB1 : Below base w (w2.alloc (.cells z60.toArray 60)) := bC2.trans (cB1.mono (Nat.le_trans sr szB1))
            have syB1 : wr.heap.size ≤ (w2.alloc (.cells z60.toArray 60)).heap.size := Nat.le_trans szB1 cB1.size
            have leB1 : wr.heap.size ≤ w2.heap.size := by first | exact szB1 | (have h := szB1; simp at h; omega) | omega
            refine hK.out _ _ (HeldS.keep hHeld (cB1.block _ (by omega)) (cB1.block _ (by omega)) (cB1.block _ (by omega))) (fun hHeld => ?_)
            clear hK K
            try simp only [Act.put, List.setIfInBounds_toArray, List.set_cons_zero, List.set_cons_succ]
            refine wpAnyH_ready (rs := [11]) (by kernel_rfl) (by simp) ?_
            refine AllReadyH.cons (o := ⟨some 6, _, _, _, _, _⟩) rfl (fun K hK => ?_) AllReadyH.nil
            · go_simp
              have cA2 : Below (w2.alloc (.cells z60.toArray 60)).heap.size (w2.alloc (.cells z60.toArray 60)) ((w2.alloc (.cells z60.toArray 60)).alloc (.cells z54.toArray 54)) := (Below.refl _ _).alloc (Nat.le_refl _) _
              have nA2 : Blk ((w2.alloc (.cells z60.toArray 60)).alloc (.cells z54.toArray 54)) (w2.heap.size + 1) 54 z54.toArray := Blk.new_ (w2.alloc (.cells z60.toArray 60)) 54 _ _ (by first | rfl | simp)
              have szA2 : wr.heap.size ≤ (w2.alloc (.cells z60.toArray 60)).heap.size := syB1
              have FA2 := FB1.keep cA2
              have bCA2 : Below base w ((w2.alloc (.cells z60.toArray 60)).alloc (.cells z54.toArray 54)) := bCB1.trans (cA2.mono (Nat.le_trans sr szA2))
              have syA2 : wr.heap.size ≤ ((w2.alloc (.cells z60.toArray 60)).alloc (.cells z54.toArray 54)).heap.size := Nat.le_trans szA2 cA2.size
              have BBA2 := nB1.below cA2 nB1.lt
              have leA2 : wr.heap.size ≤ w2.heap.size + 1 := by first | exact szA2 | (have h := szA2; simp at h; omega) | omega
              refine hK.out _ _ (HeldS.keep hHeld (cA2.block _ (by omega)) (cA2.block _ (by omega)) (cA2.block _ (by omega))) (fun hHeld => ?_)
              clear hK K
              try simp only [Act.put, List.setIfInBounds_toArray, List.set_cons_zero, List.set_cons_succ]
              obtain ⟨wl, hwl⟩ : ∃ X : World, X = ((w2.alloc (.cells z60.toArray 60)).alloc (.cells z54.toArray 54)) := ⟨_, rfl⟩
              have FL := FA2
              have bL := bCA2
              have LA := nA2
              have LB := BBA2
              have lea := leA2
              have leb := leB1
              have gab : (w2.heap.size + 1) ≠ (w2.heap.size) := fun e => by
                have h1 := LA
                have h2 := LB
                unfold Blk at h1 h2
                rw [e, h2] at h1
                injection h1 with h1
                injection h1 with _ h1
                exact absurd h1 (by decide)
              have RL := rall_len R' P' V' FL.lens
              have RO := rall_one R' P' V' FL.ones
              have szl : wr.heap.size ≤ ((w2.alloc (.cells z60.toArray 60)).alloc (.cells z54.toArray 54)).heap.size := syA2
              refine wpAnyH_ready (rs := [13]) (by kernel_rfl) (by simp) ?_
              refine AllReadyH.cons (o := ⟨none, _, _, _, _, _⟩) rfl (fun K hK => ?_) AllReadyH.nil
              refine wpr_if (by rfl) ?_
              refine wpr_store 54 _ _ rfl ((w2.heap.size + 1)) 0 rfl 54 [] z54 [] (hptr g') rfl (by rw [List.nil_append, List.append_nil]; exact LA) rfl rfl (by kernel_rfl) (hptr_one _) ?_
              intro wS6 S6 O6
              refine hK.out _ _ (HeldS.keep hHeld (O6.block _ (by omega)) (O6.block _ (by omega)) (O6.block _ (by omega))) (fun hHeld => ?_)
              clear hK K
              try simp only [Act.put, List.setIfInBounds_toArray, List.set_cons_zero, List.set_cons_succ]
              refine wpAnyH_ready (rs := [14]) (by kernel_rfl) (by simp) ?_
              refine AllReadyH.cons (o := ⟨none, _, _, _, _, _⟩) rfl (fun K hK => ?_) AllReadyH.nil
              refine wpr_if (by rfl) ?_
              refine wpr_store 60 _ _ rfl ((w2.heap.size)) 0 rfl 60 [] z60 [] (rall R' P' V') rfl (by rw [List.nil_append, List.append_nil]; exact LB.only O6 (fun e => gab e.symm)) rfl (by rw [RL]; rfl) (by rw [RL]; kernel_rfl) RO ?_
              intro wS7 S7 O7
              refine hK.out _ _ (HeldS.keep hHeld (O7.block _ (by omega)) (O7.block _ (by omega)) (O7.block _ (by omega))) (fun hHeld => ?_)
              clear hK K
              try simp only [Act.put, List.setIfInBounds_toArray, List.set_cons_zero, List.set_cons_succ]
              refine wpAnyH_take (i := 15) (oi := ⟨some 8, _, _, _, _, _⟩) (v := ?_) rfl (by kernel_rfl) (by kernel_rfl) (by kernel_rfl) (fun _ _ _ h => h) (Or.inl ⟨by rfl, ?_⟩) hHeld ?_
              rotate_left
              · intro wx hSw
                go_simp
                all_goals (with_reducible rfl)
              try simp only [Act.put, List.setIfInBounds_toArray, List.set_cons_zero, List.set_cons_succ]
              refine wpAnyH_done (by kernel_rfl) ?_ _
              refine NoPanic.normal ?_
              rw [List.nil_append, List.append_nil] at S6 S7
              have F6 := FL.onlyB LA (by decide) (by decide) O6
              have LB6 := LB.only O6 (fun e => gab e.symm)
              have F7 := F6.onlyB LB6 (by decide) (by decide) O7
              have S6' := S6.only O7 gab
              have b7 : Below base w wS7 := O7.below (O6.below bL (by omega)) (by omega)
              have sz7 : base ≤ wS7.heap.size := by rw [O7.size, O6.size]; exact Nat.le_trans sr szl
              go_wp2_with fail
              go_meet
              case rel => exact ⟨_, _, g', R', P', A', V', rfl, rfl, rfl, S6', S7, F7, hHeld.2.1, hHeld.2.2, b7, by omega, by omega, lea, leb, sz7⟩
        · go_simp
          have cA0 : Below wr.drew.heap.size wr.drew (wr.drew.alloc (.cells z54.toArray 54)) := (Below.refl _ _).alloc (Nat.le_refl _) _
          have nA0 : Blk (wr.drew.alloc (.cells z54.toArray 54)) (wr.heap.size) 54 z54.toArray := Blk.new_ wr.drew 54 _ _ (by first | rfl | simp)
          have szA0 : wr.heap.size ≤ wr.drew.heap.size := bw.size
          have bwA0 : Below wr.heap.size wr (wr.drew.alloc (.cells z54.toArray 54)) := bw.trans (cA0.mono szA0)
          have leA0 : wr.heap.size ≤ wr.heap.size := by first | exact szA0 | (have h := szA0; simp at h; omega) | omega
          refine hK.out _ _ (HeldS.keep hHeld (cA0.block _ (by omega)) (cA0.block _ (by omega)) (cA0.block _ (by omega))) (fun hHeld => ?_)
          clear hK K
          try simp only [Act.put, List.setIfInBounds_toArray, List.set_cons_zero, List.set_cons_succ]
          refine wpAnyH_ready (rs := [6, 12]) (by kernel_rfl) (by simp) ?_
          refine AllReadyH.cons (o := ⟨some 33, _, _, _, _, _⟩) rfl (fun K hK => ?_) (AllReadyH.cons (o := ⟨some 7, _, _, _, _, _⟩) rfl (fun K hK => ?_) AllReadyH.nil)
          · go_simp
            refine (HPLAY.out (wr.drew.alloc (.cells z54.toArray 54)) rfl bwA0).mono ?_
            rintro e w2 ⟨g', R', P', A', V', rfl, F2, hb2, hk2⟩
            have bC2 : Below base w w2 := (HPL.out.bel.trans (bwA0.mono sr)).trans hb2
            have sW2 : wr.heap.size ≤ w2.heap.size := Nat.le_trans bwA0.size hb2.size
            have sZ : wr.heap.size ≤ (wr.drew.alloc (.cells z54.toArray 54)).heap.size := bwA0.size
            have lA := nA0.lt
            have BA2 : Blk w2 (wr.heap.size) 54 z54.toArray := (hk2 _ lA (NG.out _ (.inr (.inr (.inr leA0))))).trans nA0
            refine hK.out _ _ (HeldS.keep hHeld (hk2 _ (by omega) (NG.out _ (.inr (.inr (.inl habb))))) (hk2 _ (by omega) (NG.out _ (.inl rfl))) (hk2 _ (by omega) (NG.out _ (.inr (.inl rfl))))) (fun hHeld => ?_)
            clear hK K
            try simp only [Act.put, List.setIfInBounds_toArray, List.set_cons_zero, List.set_cons_succ]
            refine wpAnyH_take (i := 7) (oi := ⟨some 26, _, _, _, _, _⟩) (v := ?_) rfl (by kernel_rfl) (by kernel_rfl) (by kernel_rfl) (fun _ _ _ h => h) (Or.inl ⟨by rfl, ?_⟩) hHeld ?_
            rotate_left
            · intro wx hSw
              go_simp
              all_goals (with_reducible rfl)
            try simp only [Act.put, List.setIfInBounds_toArray, List.set_cons_zero, List.set_cons_succ]
            refine wpAnyH_take (i := 8) (oi := ⟨some 34, _, _, _, _, _⟩) (v := ?_) rfl (by kernel_rfl) (by kernel_rfl) (by kernel_rfl) (fun _ _ _ h => h) (Or.inl ⟨by rfl, ?_⟩) hHeld ?_
            rotate_left
            · intro wx hSw
              go_simp
              all_goals (with_reducible rfl)
            try simp only [Act.put, List.setIfInBounds_toArray, List.set_cons_zero, List.set_cons_succ]
            refine wpAnyH_take (i := 9) (oi := ⟨some 35, _, _, _, _, _⟩) (v := ?_) rfl (by kernel_rfl) (by kernel_rfl) (by kernel_rfl) (fun _ _ _ h => h) (Or.inl ⟨by rfl, ?_⟩) hHeld ?_
            rotate_left
            · intro wx hSw
              go_simp
              all_goals (with_reducible rfl)
            try simp only [Act.put, List.setIfInBounds_toArray, List.set_cons_zero, List.set_cons_succ]
            refine wpAnyH_take (i := 10) (oi := ⟨some 36, _, _, _, _, _⟩) (v := ?_) rfl (by kernel_rfl) (by kernel_rfl) (by kernel_rfl) (fun _ _ _ h => h) (Or.inl ⟨by rfl, ?_⟩) hHeld ?_
            rotate_left
            · intro wx hSw
              go_simp
              all_goals (with_reducible rfl)
            try simp only [Act.put, List.setIfInBounds_toArray, List.set_cons_zero, List.set_cons_succ]
            refine wpAnyH_ready (rs := [12]) (by kernel_rfl) (by simp) ?_
            refine AllReadyH.cons (o := ⟨some 7, _, _, _, _, _⟩) rfl (fun K hK => ?_) AllReadyH.nil
            · go_simp
              have cB2 : Below w2.heap.size w2 (w2.alloc (.cells z60.toArray 60)) := (Below.refl _ _).alloc (Nat.le_refl _) _
              have nB2 : Blk (w2.alloc (.cells z60.toArray 60)) (w2.heap.size) 60 z60.toArray := Blk.new_ w2 60 _ _ (by first | rfl | simp)
              have szB2 : wr.heap.size ≤ w2.heap.size := sW2
              have FB2 := F2.keep cB2
              have bCB2 : Below base w (w2.alloc (.cells z60.toArray 60)) := bC2.trans (cB2.mono (Nat.le_trans sr szB2))
              have syB2 : wr.heap.size ≤ (w2.alloc (.cells z60.toArray 60)).heap.size := Nat.le_trans szB2 cB2.size
              have BAB2 := BA2.below cB2 BA2.lt
              have leB2 : wr.heap.size ≤ w2.heap.size := by first | exact szB2 | (have h := szB2; simp at h; omega) | omega
              refine hK.out _ _ (HeldS.keep hHeld (cB2.block _ (by omega)) (cB2.block _ (by omega)) (cB2.block _ (by omega))) (fun hHeld => ?_)
              clear hK K
              try simp only [Act.put, List.setIfInBounds_toArray, List.set_cons_zero, List.set_cons_succ]
              obtain ⟨wl, hwl⟩ : ∃ X : World, X = (w2.alloc (.cells z60.toArray 60)) := ⟨_, rfl⟩
              have FL := FB2
              have bL := bCB2
              have LA := BAB2
              have LB := nB2
              have lea := leA0
              have leb := leB2
              have gab : (wr.heap.size) ≠ (w2.heap.size) := fun e => by
                have h1 := LA
                have h2 := LB
                unfold Blk at h1 h2
                rw [e, h2] at h1
                injection h1 with h1
                injection h1 with _ h1
                exact absurd h1 (by decide)
              have RL := rall_len R' P' V' FL.lens
              have RO := rall_one R' P' V' FL.ones
              have szl : wr.heap.size ≤ (w2.alloc (.cells z60.toArray 60)).heap.size := syB2
              refine wpAnyH_ready (rs := [13]) (by kernel_rfl) (by simp) ?_
              refine AllReadyH.cons (o := ⟨none, _, _, _, _, _⟩) rfl (fun K hK => ?_) AllReadyH.nil
              refine wpr_if (by rfl) ?_
              refine wpr_store 54 _ _ rfl ((wr.heap.size)) 0 rfl 54 [] z54 [] (hptr g') rfl (by rw [List.nil_append, List.append_nil]; exact LA) rfl rfl (by kernel_rfl) (hptr_one _) ?_
              intro wS6 S6 O6
              refine hK.out _ _ (HeldS.keep hHeld (O6.block _ (by omega)) (O6.block _ (by omega)) (O6.block _ (by omega))) (fun hHeld => ?_)
              clear hK K
              try simp only [Act.put, List.setIfInBounds_toArray, List.set_cons_zero, List.set_cons_succ]
              refine wpAnyH_ready (rs := [14]) (by kernel_rfl) (by simp) ?_
              refine AllReadyH.cons (o := ⟨none, _, _, _, _, _⟩) rfl (fun K hK => ?_) AllReadyH.nil
              refine wpr_if (by rfl) ?_
              refine wpr_store 60 _ _ rfl ((w2.heap.size)) 0 rfl 60 [] z60 [] (rall R' P' V') rfl (by rw [List.nil_append, List.append_nil]; exact LB.only O6 (fun e => gab e.symm)) rfl (by rw [RL]; rfl) (by rw [RL]; kernel_rfl) RO ?_
              intro wS7 S7 O7
              refine hK.out _ _ (HeldS.keep hHeld (O7.block _ (by omega)) (O7.block _ (by omega)) (O7.block _ (by omega))) (fun hHeld => ?_)
              clear hK K
              try simp only [Act.put, List.setIfInBounds_toArray, List.set_cons_zero, List.set_cons_succ]
              refine wpAnyH_take (i := 15) (oi := ⟨some 8, _, _, _, _, _⟩) (v := ?_) rfl (by kernel_rfl) (by kernel_rfl) (by kernel_rfl) (fun _ _ _ h => h) (Or.inl ⟨by rfl, ?_⟩) hHeld ?_
              rotate_left
              · intro wx hSw
                go_simp
                all_goals (with_reducible rfl)
              try simp only [Act.put, List.setIfInBounds_toArray, List.set_cons_zero, List.set_cons_succ]
              refine wpAnyH_done (by kernel_rfl) ?_ _
              refine NoPanic.normal ?_
              rw [List.nil_append, List.append_nil] at S6 S7
              have F6 := FL.onlyB LA (by decide) (by decide) O6
              have LB6 := LB.only O6 (fun e => gab e.symm)
              have F7 := F6.onlyB LB6 (by decide) (by decide) O7
              have S6' := S6.only O7 gab
              have b7 : Below base w wS7 := O7.below (O6.below bL (by omega)) (by omega)
              have sz7 : base ≤ wS7.heap.size := by rw [O7.size, O6.size]; exact Nat.le_trans sr szl
              go_wp2_with fail
              go_meet
              case rel => exact ⟨_, _, g', R', P', A', V', rfl, rfl, rfl, S6', S7, F7, hHeld.2.1, hHeld.2.2, b7, by omega, by omega, lea, leb, sz7⟩
          · go_simp
            have cB1 : Below (wr.drew.alloc (.cells z54.toArray 54)).heap.size (wr.drew.alloc (.cells z54.toArray 54)) ((wr.drew.alloc (.cells z54.toArray 54)).alloc (.cells z60.toArray 60)) := (Below.refl _ _).alloc (Nat.le_refl _) _
            have nB1 : Blk ((wr.drew.alloc (.cells z54.toArray 54)).alloc (.cells z60.toArray 60)) (wr.heap.size + 1) 60 z60.toArray := Blk.new_ (wr.drew.alloc (.cells z54.toArray 54)) 60 _ _ (by first | rfl | simp)
            have szB1 : wr.heap.size ≤ (wr.drew.alloc (.cells z54.toArray 54)).heap.size := bwA0.size
            have bwB1 : Below wr.heap.size wr ((wr.drew.alloc (.cells z54.toArray 54)).alloc (.cells z60.toArray 60)) := bwA0.trans (cB1.mono szB1)
            have BAB1 := nA0.below cB1 nA0.lt
            have leB1 : wr.heap.size ≤ wr.heap.size + 1 := by first | exact szB1 | (have h := szB1; simp at h; omega) | omega
            refine hK.out _ _ (HeldS.keep hHeld (cB1.block _ (by omega)) (cB1.block _ (by omega)) (cB1.block _ (by omega))) (fun hHeld => ?_)
            clear hK K
            try simp only [Act.put, List.setIfInBounds_toArray, List.set_cons_zero, List.set_cons_succ]
            refine wpAnyH_ready (rs := [6]) (by kernel_rfl) (by simp) ?_
            refine AllReadyH.cons (o := ⟨some 33, _, _, _, _, _⟩) rfl (fun K hK => ?_) AllReadyH.nil
            · go_simp
              refine (HPLAY.out ((wr.drew.alloc (.cells z54.toArray 54)).alloc (.cells z60.toArray 60)) rfl bwB1).mono ?_
              rintro e w2 ⟨g', R', P', A', V', rfl, F2, hb2, hk2⟩
              have bC2 : Below base w w2 := (HPL.out.bel.trans (bwB1.mono sr)).trans hb2
              have sW2 : wr.heap.size ≤ w2.heap.size := Nat.le_trans bwB1.size hb2.size
              have sZ : wr.heap.size ≤ ((wr.drew.alloc (.cells z54.toArray 54)).alloc (.cells z60.toArray 60)).heap.size := bwB1.size
              have lA := BAB1.lt
              have BA2 : Blk w2 (wr.heap.size) 54 z54.toArray := (hk2 _ lA (NG.out _ (.inr (.inr (.inr leA0))))).trans BAB1
              have lB := nB1.lt
              have BB2 : Blk w2 (wr.heap.size + 1) 60 z60.toArray := (hk2 _ lB (NG.out _ (.inr (.inr (.inr leB1))))).trans nB1
              refine hK.out _ _ (HeldS.keep hHeld (hk2 _ (by omega) (NG.out _ (.inr (.inr (.inl habb))))) (hk2 _ (by omega) (NG.out _ (.inl rfl))) (hk2 _ (by omega) (NG.out _ (.inr (.inl rfl))))) (fun hHeld => ?_)
              clear hK K
              try simp only [Act.put, List.setIfInBounds_toArray, List.set_cons_zero, List.set_cons_succ]
              refine wpAnyH_take (i := 7) (oi := ⟨some 26, _, _, _, _, _⟩) (v := ?_) rfl (by kernel_rfl) (by kernel_rfl) (by kernel_rfl) (fun _ _ _ h => h) (Or.inl ⟨by rfl, ?_⟩) hHeld ?_
              rotate_left
              · intro wx hSw
                go_simp
                all_goals (with_reducible rfl)
              try simp only [Act.put, List.setIfInBounds_toArray, List.set_cons_zero, List.set_cons_succ]
              refine wpAnyH_take (i := 8) (oi := ⟨some 34, _, _, _, _, _⟩) (v := ?_) rfl (by kernel_rfl) (by kernel_rfl) (by kernel_rfl) (fun _ _ _ h => h) (Or.inl ⟨by rfl, ?_⟩) hHeld ?_
              rotate_left
              · intro wx hSw
                go_simp
                all_goals (with_reducible rfl)
              try simp only [Act.put, List.setIfInBounds_toArray, List.set_cons_zero, List.set_cons_succ]
              refine wpAnyH_take (i := 9) (oi := ⟨some 35, _, _, _, _, _⟩) (v := ?_) rfl (by kernel_rfl) (by kernel_rfl) (by kernel_rfl) (fun _ _ _ h => h) (Or.inl ⟨by rfl, ?_⟩) hHeld ?_
              rotate_left
              · intro wx hSw
                go_simp
                all_goals (with_reducible rfl)
              try simp only [Act.put, List.setIfInBounds_toArray, List.set_cons_zero, List.set_cons_succ]
              refine wpAnyH_take (i := 10) (oi := ⟨some 36, _, _, _, _, _⟩) (v := ?_) rfl (by kernel_rfl) (by kernel_rfl) (by kernel_rfl) (fun _ _ _ h => h) (Or.inl ⟨by rfl, ?_⟩) hHeld ?_
              rotate_left
              · intro wx hSw
                go_simp
                all_goals (with_reducible rfl)
              try simp only [Act.put, List.setIfInBounds_toArray, List.set_cons_zero, List.set_cons_succ]
              obtain ⟨wl, hwl⟩ : ∃ X : World, X = w2 := ⟨_, rfl⟩
              have FL := F2
              have bL := bC2
              have LA := BA2
              have LB := BB2
              have lea := leA0
              have leb := leB1
              have gab : (wr.heap.size) ≠ (wr.heap.size + 1) := fun e => by
                have h1 := LA
                have h2 := LB
                unfold Blk at h1 h2
                rw [e, h2] at h1
                injection h1 with h1
                injection h1 with _ h1
                exact absurd h1 (by decide)
              have RL := rall_len R' P' V' FL.lens
              have RO := rall_one R' P' V' FL.ones
              have szl : wr.heap.size ≤ w2.heap.size := sW2
              refine wpAnyH_ready (rs := [13]) (by kernel_rfl) (by simp) ?_
              refine AllReadyH.cons (o := ⟨none, _, _, _, _, _⟩) rfl (fun K hK => ?_) AllReadyH.nil
              refine wpr_if (by rfl) ?_
              refine wpr_store 54 _ _ rfl ((wr.heap.size)) 0 rfl 54 [] z54 [] (hptr g') rfl (by rw [List.nil_append, List.append_nil]; exact LA) rfl rfl (by kernel_rfl) (hptr_one _) ?_
              intro wS6 S6 O6
              refine hK.out _ _ (HeldS.keep hHeld (O6.block _ (by omega)) (O6.block _ (by omega)) (O6.block _ (by omega))) (fun hHeld => ?_)
              clear hK K
              try simp only [Act.put, List.setIfInBounds_toArray, List.set_cons_zero, List.set_cons_succ]
              refine wpAnyH_ready (rs := [14]) (by kernel_rfl) (by simp) ?_
              refine AllReadyH.cons (o := ⟨none, _, _, _, _, _⟩) rfl (fun K hK => ?_) AllReadyH.nil
              refine wpr_if (by rfl) ?_
              refine wpr_store 60 _ _ rfl ((wr.heap.size + 1)) 0 rfl 60 [] z60 [] (rall R' P' V') rfl (by rw [List.nil_append, List.append_nil]; exact LB.only O6 (fun e => gab e.symm)) rfl (by rw [RL]; rfl) (by rw [RL]; kernel_rfl) RO ?_
              intro wS7 S7 O7
              refine hK.out _ _ (HeldS.keep hHeld (O7.block _ (by omega)) (O7.block _ (by omega)) (O7.block _ (by omega))) (fun hHeld => ?_)
              clear hK K
              try simp only [Act.put, List.setIfInBounds_toArray, List.set_cons_zero, List.set_cons_succ]
              refine wpAnyH_take (i := 15) (oi := ⟨some 8, _, _, _, _, _⟩) (v := ?_) rfl (by kernel_rfl) (by kernel_rfl) (by kernel_rfl) (fun _ _ _ h => h) (Or.inl ⟨by rfl, ?_⟩) hHeld ?_
              rotate_left
              · intro wx hSw
                go_simp
                all_goals (with_reducible rfl)
              try simp only [Act.put, List.setIfInBounds_toArray, List.set_cons_zero, List.set_cons_succ]
              refine wpAnyH_done (by kernel_rfl) ?_ _
              refine NoPanic.normal ?_
              rw [List.nil_append, List.append_nil] at S6 S7
              have F6 := FL.onlyB LA (by decide) (by decide) O6
              have LB6 := LB.only O6 (fun e => gab e.symm)
              have F7 := F6.onlyB LB6 (by decide) (by decide) O7
              have S6' := S6.only O7 gab
              have b7 : Below base w wS7 := O7.below (O6.below bL (by omega)) (by omega)
              have sz7 : base ≤ wS7.heap.size := by rw [O7.size, O6.size]; exact Nat.le_trans sr szl
              go_wp2_with fail
              go_meet
              case rel => exact ⟨_, _, g', R', P', A', V', rfl, rfl, rfl, S6', S7, F7, hHeld.2.1, hHeld.2.2, b7, by omega, by omega, lea, leb, sz7⟩
        · go_simp
          have cB0 : Below wr.drew.heap.size wr.drew (wr.drew.alloc (.cells z60.toArray 60)) := (Below.refl _ _).alloc (Nat.le_refl _) _
          have nB0 : Blk (wr.drew.alloc (.cells z60.toArray 60)) (wr.heap.size) 60 z60.toArray := Blk.new_ wr.drew 60 _ _ (by first | rfl | simp)
          have szB0 : wr.heap.size ≤ wr.drew.heap.size := bw.size
          have bwB0 : Below wr.heap.size wr (wr.drew.alloc (.cells z60.toArray 60)) := bw.trans (cB0.mono szB0)
          have leB0 : wr.heap.size ≤ wr.heap.size := by first | exact szB0 | (have h := szB0; simp at h; omega) | omega
          refine hK.out _ _ (HeldS.keep hHeld (cB0.block _ (by omega)) (cB0.block _ (by omega)) (cB0.block _ (by omega))) (fun hHeld => ?_)
          clear hK K
          try simp only [Act.put, List.setIfInBounds_toArray, List.set_cons_zero, List.set_cons_succ]
          refine wpAnyH_ready (rs := [6, 11]) (by kernel_rfl) (by simp) ?_
          refine AllReadyH.cons (o := ⟨some 33, _, _, _, _, _⟩) rfl (fun K hK => ?_) (AllReadyH.cons (o := ⟨some 6, _, _, _, _, _⟩) rfl (fun K hK => ?_) AllReadyH.nil)
          · go_simp
            refine (HPLAY.out (wr.drew.alloc (.cells z60.toArray 60)) rfl bwB0).mono ?_
            rintro e w2 ⟨g', R', P', A', V', rfl, F2, hb2, hk2⟩
            have bC2 : Below base w w2 := (HPL.out.bel.trans (bwB0.mono sr)).trans hb2
            have sW2 : wr.heap.size ≤ w2.heap.size := Nat.le_trans bwB0.size hb2.size
            have sZ : wr.heap.size ≤ (wr.drew.alloc (.cells z60.toArray 60)).heap.size := bwB0.size
            have lB := nB0.lt
            have BB2 : Blk w2 (wr.heap.size) 60 z60.toArray := (hk2 _ lB (NG.out _ (.inr (.inr (.inr leB0))))).trans nB0
            refine hK.out _ _ (HeldS.keep hHeld (hk2 _ (by omega) (NG.out _ (.inr (.inr (.inl habb))))) (hk2 _ (by omega) (NG.out _ (.inl rfl))) (hk2 _ (by omega) (NG.out _ (.inr (.inl rfl))))) (fun hHeld => ?_)
            clear hK K
            try simp only [Act.put, List.setIfInBounds_toArray, List.set_cons_zero, List.set_cons_succ]
            refine wpAnyH_take (i := 7) (oi := ⟨some 26, _, _, _, _, _⟩) (v := ?_) rfl (by kernel_rfl) (by kernel_rfl) (by kernel_rfl) (fun _ _ _ h => h) (Or.inl ⟨by rfl, ?_⟩) hHeld ?_
            rotate_left
            · intro wx hSw
              go_simp
              all_goals (with_reducible rfl)
            try simp only [Act.put, List.setIfInBounds_toArray, List.set_cons_zero, List.set_cons_succ]
            refine wpAnyH_take (i := 8) (oi := ⟨some 34, _, _, _, _, _⟩) (v := ?_) rfl (by kernel_rfl) (by kernel_rfl) (by kernel_rfl) (fun _ _ _ h => h) (Or.inl ⟨by rfl, ?_⟩) hHeld ?_
            rotate_left
            · intro wx hSw
              go_simp
              all_goals (with_reducible rfl)
            try simp only [Act.put, List.setIfInBounds_toArray, List.set_cons_zero, List.set_cons_succ]
            refine wpAnyH_take (i := 9) (oi := ⟨some 35, _, _, _, _, _⟩) (v := ?_) rfl (by kernel_rfl) (by kernel_rfl) (by kernel_rfl) (fun _ _ _ h => h) (Or.inl ⟨by rfl, ?_⟩) hHeld ?_
            rotate_left
            · intro wx hSw
              go_simp
              all_goals (with_reducible rfl)
            try simp only [Act.put, List.setIfInBounds_toArray, List.set_cons_zero, List.set_cons_succ]
            refine wpAnyH_take (i := 10) (oi := ⟨some 36, _, _, _, _, _⟩) (v := ?_) rfl (by kernel_rfl) (by kernel_rfl) (by kernel_rfl) (fun _ _ _ h => h) (Or.inl ⟨by rfl, ?_⟩) hHeld ?_
            rotate_left
            · intro wx hSw
              go_simp
              all_goals (with_reducible rfl)
            try simp only [Act.put, List.setIfInBounds_toArray, List.set_cons_zero, List.set_cons_succ]
            refine wpAnyH_ready (rs := [11]) (by kernel_rfl) (by simp) ?_
            refine AllReadyH.cons (o := ⟨some 6, _, _, _, _, _⟩) rfl (fun K hK => ?_) AllReadyH.nil
            · go_simp
              have cA2 : Below w2.heap.size w2 (w2.alloc (.cells z54.toArray 54)) := (Below.refl _ _).alloc (Nat.le_refl _) _
              have nA2 : Blk (w2.alloc (.cells z54.toArray 54)) (w2.heap.size) 54 z54.toArray := Blk.new_ w2 54 _ _ (by first | rfl | simp)
              have szA2 : wr.heap.size ≤ w2.heap.size := sW2
              have FA2 := F2.keep cA2
              have bCA2 : Below base w (w2.alloc (.cells z54.toArray 54)) := bC2.trans (cA2.mono (Nat.le_trans sr szA2))
              have syA2 : wr.heap.size ≤ (w2.alloc (.cells z54.toArray 54)).heap.size := Nat.le_trans szA2 cA2.size
              have BBA2 := BB2.below cA2 BB2.lt
              have leA2 : wr.heap.size ≤ w2.heap.size := by first | exact szA2 | (have h := szA2; simp at h; omega) | omega
              refine hK.out _ _ (HeldS.keep hHeld (cA2.block _ (by omega)) (cA2.block _ (by omega)) (cA2.block _ (by omega))) (fun hHeld => ?_)
              clear hK K
              try simp only [Act.put, List.setIfInBounds_toArray, List.set_cons_zero, List.set_cons_succ]
              obtain ⟨wl, hwl⟩ : ∃ X : World, X = (w2.alloc (.cells z54.toArray 54)) := ⟨_, rfl⟩
              have FL := FA2
              have bL := bCA2
              have LA := nA2
              have LB := BBA2
              have lea := leA2
              have leb := leB0
              have gab : (w2.heap.size) ≠ (wr.heap.size) := fun e => by
                have h1 := LA
                have h2 := LB
                unfold Blk at h1 h2
                rw [e, h2] at h1
                injection h1 with h1
                injection h1 with _ h1
                exact absurd h1 (by decide)
              have RL := rall_len R' P' V' FL.lens
              have RO := rall_one R' P' V' FL.ones
              have szl : wr.heap.size ≤ (w2.alloc (.cells z54.toArray 54)).heap.size := syA2
              refine wpAnyH_ready (rs := [13]) (by kernel_rfl) (by simp) ?_
              refine AllReadyH.cons (o := ⟨none, _, _, _, _, _⟩) rfl (fun K hK => ?_) AllReadyH.nil
              refine wpr_if (by rfl) ?_
              refine wpr_store 54 _ _ rfl ((w2.heap.size)) 0 rfl 54 [] z54 [] (hptr g') rfl (by rw [List.nil_append, List.append_nil]; exact LA) rfl rfl (by kernel_rfl) (hptr_one _) ?_
              intro wS6 S6 O6
              refine hK.out _ _ (HeldS.keep hHeld (O6.block _ (by omega)) (O6.block _ (by omega)) (O6.block _ (by omega))) (fun hHeld => ?_)
              clear hK K
              try simp only [Act.put, List.setIfInBounds_toArray, List.set_cons_zero, List.set_cons_succ]
              refine wpAnyH_ready (rs := [14]) (by kernel_rfl) (by simp) ?_
              refine AllReadyH.cons (o := ⟨none, _, _, _, _, _⟩) rfl (fun K hK => ?_) AllReadyH.nil
              refine wpr_if (by rfl) ?_
              refine wpr_store 60 _ _ rfl ((wr.heap.size)) 0 rfl 60 [] z60 [] (rall R' P' V') rfl (by rw [List.nil_append, List.append_nil]; exact LB.only O6 (fun e => gab e.symm)) rfl (by rw [RL]; rfl) (by rw [RL]; kernel_rfl) RO ?_
              intro wS7 S7 O7
              refine hK.out _ _ (HeldS.keep hHeld (O7.block _ (by omega)) (O7.block _ (by omega)) (O7.block _ (by omega))) (fun hHeld => ?_)
              clear hK K
              try simp only [Act.put, List.setIfInBounds_toArray, List.set_cons_zero, List.set_cons_succ]
              refine wpAnyH_take (i := 15) (oi := ⟨some 8, _, _, _, _, _⟩) (v := ?_) rfl (by kernel_rfl) (by kernel_rfl) (by kernel_rfl) (fun _ _ _ h => h) (Or.inl ⟨by rfl, ?_⟩) hHeld ?_
              rotate_left
              · intro wx hSw
                go_simp
                all_goals (with_reducible rfl)
              try simp only [Act.put, List.setIfInBounds_toArray, List.set_cons_zero, List.set_cons_succ]
              refine wpAnyH_done (by kernel_rfl) ?_ _
              refine NoPanic.normal ?_
              rw [List.nil_append, List.append_nil] at S6 S7
              have F6 := FL.onlyB LA (by decide) (by decide) O6
              have LB6 := LB.only O6 (fun e => gab e.symm)
              have F7 := F6.onlyB LB6 (by decide) (by decide) O7
              have S6' := S6.only O7 gab
              have b7 : Below base w wS7 := O7.below (O6.below bL (by omega)) (by omega)
              have sz7 : base ≤ wS7.heap.size := by rw [O7.size, O6.size]; exact Nat.le_trans sr szl
              go_wp2_with fail
              go_meet
              case rel => exact ⟨_, _, g', R', P', A', V', rfl, rfl, rfl, S6', S7, F7, hHeld.2.1, hHeld.2.2, b7, by omega, by omega, lea, leb, sz7⟩
          · go_simp
            have cA1 : Below (wr.drew.alloc (.cells z60.toArray 60)).heap.size (wr.drew.alloc (.cells z60.toArray 60)) ((wr.drew.alloc (.cells z60.toArray 60)).alloc (.cells z54.toArray 54)) := (Below.refl _ _).alloc (Nat.le_refl _) _
            have nA1 : Blk ((wr.drew.alloc (.cells z60.toArray 60)).alloc (.cells z54.toArray 54)) (wr.heap.size + 1) 54 z54.toArray := Blk.new_ (wr.drew.alloc (.cells z60.toArray 60)) 54 _ _ (by first | rfl | simp)
            have szA1 : wr.heap.size ≤ (wr.drew.alloc (.cells z60.toArray 60)).heap.size := bwB0.size
            have bwA1 : Below wr.heap.size wr ((wr.drew.alloc (.cells z60.toArray 60)).alloc (.cells z54.toArray 54)) := bwB0.trans (cA1.mono szA1)
            have BBA1 := nB0.below cA1 nB0.lt
            have leA1 : wr.heap.size ≤ wr.heap.size + 1 := by first | exact szA1 | (have h := szA1; simp at h; omega) | omega
            refine hK.out _ _ (HeldS.keep hHeld (cA1.block _ (by omega)) (cA1.block _ (by omega)) (cA1.block _ (by omega))) (fun hHeld => ?_)
            clear hK K
            try simp only [Act.put, List.setIfInBounds_toArray, List.set_cons_zero, List.set_cons_succ]
            refine wpAnyH_ready (rs := [6]) (by kernel_rfl) (by simp) ?_
            refine AllReadyH.cons (o := ⟨some 33, _, _, _, _, _⟩) rfl (fun K hK => ?_) AllReadyH.nil
            · go_simp
              refine (HPLAY.out ((wr.drew.alloc (.cells z60.toArray 60)).alloc (.cells z54.toArray 54)) rfl bwA1).mono ?_
              rintro e w2 ⟨g', R', P', A', V', rfl, F2, hb2, hk2⟩
              have bC2 : Below base w w2 := (HPL.out.bel.trans (bwA1.mono sr)).trans hb2
              have sW2 : wr.heap.size ≤ w2.heap.size := Nat.le_trans bwA1.size hb2.size
              have sZ : wr.heap.size ≤ ((wr.drew.alloc (.cells z60.toArray 60)).alloc (.cells z54.toArray 54)).heap.size := bwA1.size
              have lA := nA1.lt
              have BA2 : Blk w2 (wr.heap.size + 1) 54 z54.toArray := (hk2 _ lA (NG.out _ (.inr (.inr (.inr leA1))))).trans nA1
              have lB := BBA1.lt
              have BB2 : Blk w2 (wr.heap.size) 60 z60.toArray := (hk2 _ lB (NG.out _ (.inr (.inr (.inr leB0))))).trans BBA1
              refine hK.out _ _ (HeldS.keep hHeld (hk2 _ (by omega) (NG.out _ (.inr (.inr (.inl habb))))) (hk2 _ (by omega) (NG.out _ (.inl rfl))) (hk2 _ (by omega) (NG.out _ (.inr (.inl rfl))))) (fun hHeld => ?_)
              clear hK K
              try simp only [Act.put, List.setIfInBounds_toArray, List.set_cons_zero, List.set_cons_succ]
              refine wpAnyH_take (i := 7) (oi := ⟨some 26, _, _, _, _, _⟩) (v := ?_) rfl (by kernel_rfl) (by kernel_rfl) (by kernel_rfl) (fun _ _ _ h => h) (Or.inl ⟨by rfl, ?_⟩) hHeld ?_
              rotate_left
              · intro wx hSw
                go_simp
                all_goals (with_reducible rfl)
              try simp only [Act.put, List.setIfInBounds_toArray, List.set_cons_zero, List.set_cons_succ]
              refine wpAnyH_take (i := 8) (oi := ⟨some 34, _, _, _, _, _⟩) (v := ?_) rfl (by kernel_rfl) (by kernel_rfl) (by kernel_rfl) (fun _ _ _ h => h) (Or.inl ⟨by rfl, ?_⟩) hHeld ?_
              rotate_left
              · intro wx hSw
                go_simp
                all_goals (with_reducible rfl)
              try simp only [Act.put, List.setIfInBounds_toArray, List.set_cons_zero, List.set_cons_succ]
              refine wpAnyH_take (i := 9) (oi := ⟨some 35, _, _, _, _, _⟩) (v := ?_) rfl (by kernel_rfl) (by kernel_rfl) (by kernel_rfl) (fun _ _ _ h => h) (Or.inl ⟨by rfl, ?_⟩) hHeld ?_
              rotate_left
              · intro wx hSw
                go_simp
                all_goals (with_reducible rfl)
              try simp only [Act.put, List.setIfInBounds_toArray, List.set_cons_zero, List.set_cons_succ]
              refine wpAnyH_take (i := 10) (oi := ⟨some 36, _, _, _, _, _⟩) (v := ?_) rfl (by kernel_rfl) (by kernel_rfl) (by kernel_rfl) (fun _ _ _ h => h) (Or.inl ⟨by rfl, ?_⟩) hHeld ?_
              rotate_left
              · intro wx hSw
                go_simp
                all_goals (with_reducible rfl)
              try simp only [Act.put, List.setIfInBounds_toArray, List.set_cons_zero, List.set_cons_succ]
              obtain ⟨wl, hwl⟩ : ∃ X : World, X = w2 := ⟨_, rfl⟩
              have FL := F2
              have bL := bC2
              have LA := BA2
              have LB := BB2
              have lea := leA1
              have leb := leB0
              have gab : (wr.heap.size + 1) ≠ (wr.heap.size) := fun e => by
                have h1 := LA
                have h2 := LB
                unfold Blk at h1 h2
                rw [e, h2] at h1
                injection h1 with h1
                injection h1 with _ h1
                exact absurd h1 (by decide)
              have RL := rall_len R' P' V' FL.lens
              have RO := rall_one R' P' V' FL.ones
              have szl : wr.heap.size ≤ w2.heap.size := sW2
              refine wpAnyH_ready (rs := [13]) (by kernel_rfl) (by simp) ?_
              refine AllReadyH.cons (o := ⟨none, _, _, _, _, _⟩) rfl (fun K hK => ?_) AllReadyH.nil
              refine wpr_if (by rfl) ?_
              refine wpr_store 54 _ _ rfl ((wr.heap.size + 1)) 0 rfl 54 [] z54 [] (hptr g') rfl (by rw [List.nil_append, List.append_nil]; exact LA) rfl rfl (by kernel_rfl) (hptr_one _) ?_
              intro wS6 S6 O6
              refine hK.out _ _ (HeldS.keep hHeld (O6.block _ (by omega)) (O6.block _ (by omega)) (O6.block _ (by omega))) (fun hHeld => ?_)
              clear hK K
              try simp only [Act.put, List.setIfInBounds_toArray, List.set_cons_zero, List.set_cons_succ]
              refine wpAnyH_ready (rs := [14]) (by kernel_rfl) (by simp) ?_
              refine AllReadyH.cons (o := ⟨none, _, _, _, _, _⟩) rfl (fun K hK => ?_) AllReadyH.nil
              refine wpr_if (by rfl) ?_
              refine wpr_store 60 _ _ rfl ((wr.heap.size)) 0 rfl 60 [] z60 [] (rall R' P' V') rfl (by rw [List.nil_append, List.append_nil]; exact LB.only O6 (fun e => gab e.symm)) rfl (by rw [RL]; rfl) (by rw [RL]; kernel_rfl) RO ?_
              intro wS7 S7 O7
              refine hK.out _ _ (HeldS.keep hHeld (O7.block _ (by omega)) (O7.block _ (by omega)) (O7.block _ (by omega))) (fun hHeld => ?_)
              clear hK K
              try simp only [Act.put, List.setIfInBounds_toArray, List.set_cons_zero, List.set_cons_succ]
              refine wpAnyH_take (i := 15) (oi := ⟨some 8, _, _, _, _, _⟩) (v := ?_) rfl (by kernel_rfl) (by kernel_rfl) (by kernel_rfl) (fun _ _ _ h => h) (Or.inl ⟨by rfl, ?_⟩) hHeld ?_
              rotate_left
              · intro wx hSw
                go_simp
                all_goals (with_reducible rfl)
              try simp only [Act.put, List.setIfInBounds_toArray, List.set_cons_zero, List.set_cons_succ]
              refine wpAnyH_done (by kernel_rfl) ?_ _
              refine NoPanic.normal ?_
              rw [List.nil_append, List.append_nil] at S6 S7
              have F6 := FL.onlyB LA (by decide) (by decide) O6
              have LB6 := LB.only O6 (fun e => gab e.symm)
              have F7 := F6.onlyB LB6 (by decide) (by decide) O7
              have S6' := S6.only O7 gab
              have b7 : Below base w wS7 := O7.below (O6.below bL (by omega)) (by omega)
              have sz7 : base ≤ wS7.heap.size := by rw [O7.size, O6.size]; exact Nat.le_trans sr szl
              go_wp2_with fail
              go_meet
              case rel => exact ⟨_, _, g', R', P', A', V', rfl, rfl, rfl, S6', S7, F7, hHeld.2.1, hHeld.2.2, b7, by omega, by omega, lea, leb, sz7⟩
      case rest =>
        obtain ⟨ga, gb, g', R', P', A', V', rfl, rfl, rfl, SA', SB', F', bh', br', bel', nga, ngb, lga, lgb, szc⟩ := hcut
        have RL := rall_len R' P' V' F'.lens
        have RO := rall_one R' P' V' F'.ones
        have HF' := Lib.hid F'
        have n1 : gh ≠ gb := by omega
        have n2 : gr ≠ ga := by omega
        have n3 : gh ≠ gr := by omega
        clear F'
        go_upto_region 9 with fail
        refine wp_region_noPanic ?_
        refine wp_region_held_drew (S := (HeldQ ga gb (hptr g') (rall R' P' V'))) (by kernel_rfl) ?_ (fun hHeld => ?_)
        · exact ⟨SA', SB'⟩
        refine wpAnyH_take (i := 0) (oi := ⟨some 39, _, _, _, _, _⟩) (v := _) rfl (by kernel_rfl) (by kernel_rfl) (by kernel_rfl) (fun _ _ _ h => h) (yieldsIf_load_mid (by rfl) 54 _ rfl ga 0 rfl (hptr g') _ (fun wx hSw => blk_range hSw.1) Tryd.underlying54 rfl (by kernel_rfl)) hHeld ?_
        try simp only [Act.put, List.setIfInBounds_toArray, List.set_cons_zero, List.set_cons_succ]
        refine wpAnyH_take (i := 1) (oi := ⟨some 40, _, _, _, _, _⟩) (v := _) rfl (by kernel_rfl) (by kernel_rfl) (by kernel_rfl) (fun _ _ _ h => h) (yieldsIf_load_mid (by rfl) 60 _ rfl gb 0 rfl (rall R' P' V') _ (fun wx hSw => blk_range hSw.2) Tryd.underlying60 rfl (by rw [RL]; kernel_rfl)) hHeld ?_
        try simp only [Act.put, List.setIfInBounds_toArray, List.set_cons_zero, List.set_cons_succ]
        refine wpAnyH_ready (rs := [2]) (by kernel_rfl) (by simp) ?_
        refine AllReadyH.cons (o := ⟨none, _, _, _, _, _⟩) rfl (fun K hK => ?_) AllReadyH.nil
        refine wpr_if (by rfl) ?_
        refine wpr_store 54 _ _ rfl gh 0 rfl 54 [] (hptr g) [] (hptr g') rfl (by rw [List.nil_append, List.append_nil]; exact bh') rfl rfl (by kernel_rfl) (hptr_one _) ?_
        intro wS6 S6 O6
        refine hK.out _ _ ⟨hHeld.1.only O6 nga, hHeld.2.only O6 (fun e => n1 e.symm)⟩ (fun hHeld => ?_)
        clear hK K
        try simp only [Act.put, List.setIfInBounds_toArray, List.set_cons_zero, List.set_cons_succ]
        refine wpAnyH_ready (rs := [3]) (by kernel_rfl) (by simp) ?_
        refine AllReadyH.cons (o := ⟨none, _, _, _, _, _⟩) rfl (fun K hK => ?_) AllReadyH.nil
        refine wpr_if (by rfl) ?_
        refine wpr_store 60 _ _ rfl gr 0 rfl 60 [] (rall R P V) [] (rall R' P' V') rfl (by rw [List.nil_append, List.append_nil]; exact br'.drew.only O6 (fun e => n3 e.symm)) rfl (by rw [RL, HRL.out]) (by rw [RL]; kernel_rfl) RO ?_
        intro wS7 S7 O7
        refine hK.out _ _ ⟨hHeld.1.only O7 (fun e => n2 e.symm), hHeld.2.only O7 ngb⟩ (fun hHeld => ?_)
        clear hK K
        try simp only [Act.put, List.setIfInBounds_toArray, List.set_cons_zero, List.set_cons_succ]
        refine wpAnyH_done (by kernel_rfl) ?_ _
        refine NoPanic.normal ?_
        rw [List.nil_append, List.append_nil] at S6 S7
        have F6 := HF'.out.drew.onlyB bh'.drew (by decide) (by decide) O6
        have br6 := br'.drew.only O6 (fun e => n3 e.symm)
        have F7 := F6.onlyB br6 (by decide) (by decide) O7
        have S6' := S6.only O7 n3
        have b7 : Below base w wS7 := O7.below (O6.below (show Below base w wc.drew from ⟨bel'.os, bel'.tape, bel'.output, bel'.size, bel'.block⟩) gb1) gb2
        have sz7 : base ≤ wS7.heap.size := by rw [O7.size, O6.size]; exact szc
        have PLN : Play w base gh gr (M + n) g' R' P' A' V' wS7 := ⟨F7, S6', S7, b7⟩
        have HPN := Lib.hid PLN
        clear F6 br6 F7 S6' b7 PLN bh' br' bel' SA' SB' RL RO S6 S7 O6 O7
        go_wp2
        go_roundw
        case rel => exact ⟨k + 1, M + n, g', R', P', A', V', by omega, by go_num, by have := HSUCC.out; have := HM.out; omega, sz7, HPN.out⟩
        case measure => simp [intOf]; omega
    · have ek : k = N := by omega
      subst ek
      have HPL := Lib.hid PL
      have HRL := Lib.hid (rall_len R P V PL.four.lens)
      have HFL := Lib.hid PL.four.lens
      clear PL
      go_wp2
      go_loopw [9] (fun v ws => ∃ i : Nat, i ≤ 4 ∧ v = .int .i64 (i : Int) ∧ base ≤ ws.heap.size ∧ Play w base gh gr M g R P A V ws) (fun v _ => 4 - (intOf v).toNat)
      case atStart => exact ⟨0, by omega, rfl, sr, HPL.out⟩
      case round =>
        clear HPL sr
        obtain ⟨i, hi4, rfl, sr, PL⟩ := hrel
        by_cases hi : i < 4
        · have p1 := PL.four.each i hi
          obtain ⟨Ai, ci, hVi, hlei, hCi⟩ := p1.own.arg
          obtain ⟨D, hD⟩ : ∃ D, D = total (R i) (P i) (A i) := ⟨_, rfl⟩
          have hDl : D.length = 32 := by rw [hD]; exact total_len _ _ _ p1.len
          obtain ⟨E, hE⟩ : ∃ E, E = P i + (A i).length := ⟨_, rfl⟩
          have hneq : ∀ U : World, (binOp .neq 24 (.agg (D.map v8).toArray) (.agg (D.map v8).toArray)).run Tryd.prog U = .ok (.bool false) U := fun U => run_neq24P D hDl U
          have hmost := p1.most
          have hfew := p1.few
          have T1 := HT.out wr PL.bel
          have hsum : ∀ U : World, Below wr.heap.size wr U → Calls Tryd.prog 19 #[.pointer (some ⟨g i, 0, none⟩)] U fun e w' => e = .returned (.agg (D.map v8).toArray) ∧ Below U.heap.size U w' := fun U hb => by
            rw [hD]; exact hsum_any (g i) (P i) (R i) (A i) U p1.len p1.reg p1.mod (by omega) (p1.hash.below hb) p1.byte (T1.below hb).1 (by have := (T1.below hb).2.2.2; omega)
          have htot : ∀ U : World, Below wr.heap.size wr U → Calls Tryd.prog 43 #[.agg (rh (R i) (P i) (V i)).toArray] U fun e w' => e = .returned (.agg (D.map v8).toArray) ∧ Below U.heap.size U w' := fun U hb => by
            rw [hD, hVi]; exact rtotal_any (R i) (A i) (P i) Ai ci U p1.len p1.reg (by omega) p1.byte hfew (hCi.below hb) (T1.below hb).2.1 (T1.below hb).2.2.2
          have hsize : ∀ U : World, Below wr.heap.size wr U → Calls Tryd.prog 20 #[.pointer (some ⟨g i, 0, none⟩)] U fun e w' => e = .returned (.int .i64 (E : Int)) ∧ U = w' := fun U hb => by
            rw [hE]; exact size_any (g i) (P i) (R i) (A i) U p1.len (by omega) (p1.hash.below hb)
          have hrsz : ∀ U : World, Below wr.heap.size wr U → Calls Tryd.prog 44 #[.agg (rh (R i) (P i) (V i)).toArray] U fun e w' => e = .returned (.int .i64 (E : Int)) ∧ Below U.heap.size U w' := fun U hb => by
            rw [hE, hVi]; exact rsize_any (R i) (P i) (A i).length ci Ai U p1.len (by omega)
          have HS := Lib.hid hsum; have HTO := Lib.hid htot; have HSZ := Lib.hid hsize; have HRZ := Lib.hid hrsz; have HPL := Lib.hid PL
          have i0 : (0 : Int) ≤ (i : Int) := by omega
          have i4 : (i : Int) < 4 := by omega
          clear hsum htot hsize hrsz hD hE p1 hVi hCi hlei T1 hmost hfew PL hDl
          go_upto_region 13 with fail
          refine wp_region_noPanic ?_
          refine wp_region_held_drew (S := (HeldQ gh gr (hptr g) (rall R P V))) (by kernel_rfl) ?_ (fun hHeld => ?_)
          · exact ⟨HPL.out.bh, HPL.out.br⟩
          refine wpAnyH_take (i := 0) (oi := ⟨some 45, _, _, _, _, _⟩) (v := ?_) rfl (by kernel_rfl) (by kernel_rfl) (by kernel_rfl) (fun _ _ _ h => h) (Or.inl ⟨by rfl, ?_⟩) hHeld ?_
          rotate_left
          · intro wx hSw
            go_simp
            all_goals (with_reducible rfl)
          try simp only [Act.put, List.setIfInBounds_toArray, List.set_cons_zero, List.set_cons_succ]
          refine wpAnyH_take (i := 1) (oi := ⟨some 46, _, _, _, _, _⟩) (v := ?_) rfl (by kernel_rfl) (by kernel_rfl) (by kernel_rfl) (fun _ _ _ h => h) (Or.inl ⟨by rfl, ?_⟩) hHeld ?_
          rotate_left
          · intro wx hSw
            go_simp
            all_goals (with_reducible rfl)
          try simp only [Act.put, List.setIfInBounds_toArray, List.set_cons_zero, List.set_cons_succ]
          refine wpAnyH_take (i := 2) (oi := ⟨some 47, _, _, _, _, _⟩) (v := ?_) rfl (by kernel_rfl) (by kernel_rfl) (by kernel_rfl) (fun _ _ _ h => h) (Or.inl ⟨by rfl, ?_⟩) hHeld ?_
          rotate_left
          · intro wx hSw
            have hc := (hSw.1.cell i).trans (hptr_at g i hi)
            go_simp
            all_goals (with_reducible rfl)
          try simp only [Act.put, List.setIfInBounds_toArray, List.set_cons_zero, List.set_cons_succ]
          refine wpAnyH_take (i := 4) (oi := ⟨some 49, _, _, _, _, _⟩) (v := ?_) rfl (by kernel_rfl) (by kernel_rfl) (by kernel_rfl) (fun _ _ _ h => h) (Or.inl ⟨by rfl, ?_⟩) hHeld ?_
          rotate_left
          · intro wx hSw
            go_simp
            all_goals (with_reducible rfl)
          try simp only [Act.put, List.setIfInBounds_toArray, List.set_cons_zero, List.set_cons_succ]
          refine wpAnyH_take (i := 5) (oi := ⟨some 50, _, _, _, _, _⟩) (v := ?_) rfl (by kernel_rfl) (by kernel_rfl) (by kernel_rfl) (fun _ _ _ h => h) (Or.inl ⟨by rfl, ?_⟩) hHeld ?_
          rotate_left
          · intro wx hSw
            go_simp
            all_goals (with_reducible rfl)
          try simp only [Act.put, List.setIfInBounds_toArray, List.set_cons_zero, List.set_cons_succ]
          refine wpAnyH_take (i := 6) (oi := ⟨some 51, _, _, _, _, _⟩) (v := _) rfl (by kernel_rfl) (by kernel_rfl) (by kernel_rfl) (fun _ _ _ h => h) (yieldsIf_load_mid (by rfl) 58 _ rfl gr (i * 10) rfl (rh (R i) (P i) (V i)) _ (fun wx hSw => rall_range hSw.2 HFL.out hi) Tryd.underlying58 rfl (by rw [rh_len _ _ _ (HFL.out i hi)]; kernel_rfl)) hHeld ?_
          try simp only [Act.put, List.setIfInBounds_toArray, List.set_cons_zero, List.set_cons_succ]
          refine wpAnyH_ready (rs := [3]) (by kernel_rfl) (by simp) ?_
          refine AllReadyH.cons (o := ⟨some 48, _, _, _, _, _⟩) rfl (fun K hK => ?_) AllReadyH.nil
          go_simp
          refine (HS.out wr.drew ⟨rfl, rfl, rfl, Nat.le_refl _, fun _ _ => rfl⟩).mono ?_
          rintro e w2 ⟨rfl, hb2⟩
          have hb2' : Below wr.heap.size wr w2 := ⟨hb2.os, hb2.tape, hb2.output, hb2.size, hb2.block⟩
          refine hK.out _ _ (show HeldQ gh gr (hptr g) (rall R P V) _ from ⟨hHeld.1.below hb2 hHeld.1.lt, hHeld.2.below hb2 hHeld.2.lt⟩) (fun hHeld => ?_)
          clear hK K
          try simp only [Act.put, List.setIfInBounds_toArray, List.set_cons_zero, List.set_cons_succ]
          refine wpAnyH_ready (rs := [7]) (by kernel_rfl) (by simp) ?_
          refine AllReadyH.cons (o := ⟨some 52, _, _, _, _, _⟩) rfl (fun K hK => ?_) AllReadyH.nil
          go_simp
          refine (HTO.out _ hb2').mono ?_
          rintro e w3 ⟨rfl, hb3⟩
          have hb3' : Below wr.heap.size wr w3 := hb2'.trans (hb3.mono hb2'.size)
          refine hK.out _ _ (show HeldQ gh gr (hptr g) (rall R P V) _ from ⟨hHeld.1.below hb3 hHeld.1.lt, hHeld.2.below hb3 hHeld.2.lt⟩) (fun hHeld => ?_)
          clear hK K
          try simp only [Act.put, List.setIfInBounds_toArray, List.set_cons_zero, List.set_cons_succ]
          refine wpAnyH_take (i := 8) (oi := ⟨some 53, _, _, _, _, _⟩) (v := ?_) rfl (by kernel_rfl) (by kernel_rfl) (by kernel_rfl) (fun _ _ _ h => h) (Or.inl ⟨by rfl, ?_⟩) hHeld ?_
          rotate_left
          · intro wx hSw
            go_simp
            all_goals (with_reducible rfl)
          try simp only [Act.put, List.setIfInBounds_toArray, List.set_cons_zero, List.set_cons_succ]
          refine wpAnyH_take (i := 9) (oi := ⟨some 54, _, _, _, _, _⟩) (v := ?_) rfl (by kernel_rfl) (by kernel_rfl) (by kernel_rfl) (fun _ _ _ h => h) (Or.inl ⟨by rfl, ?_⟩) hHeld ?_
          rotate_left
          · intro wx hSw
            go_simp
            all_goals (with_reducible rfl)
          try simp only [Act.put, List.setIfInBounds_toArray, List.set_cons_zero, List.set_cons_succ]
          refine wpAnyH_take (i := 10) (oi := ⟨some 55, _, _, _, _, _⟩) (v := ?_) rfl (by kernel_rfl) (by kernel_rfl) (by kernel_rfl) (fun _ _ _ h => h) (Or.inl ⟨by rfl, ?_⟩) hHeld ?_
          rotate_left
          · intro wx hSw
            go_simp
            all_goals (with_reducible rfl)
          try simp only [Act.put, List.setIfInBounds_toArray, List.set_cons_zero, List.set_cons_succ]
          refine wpAnyH_take (i := 11) (oi := ⟨some 56, _, _, _, _, _⟩) (v := ?_) rfl (by kernel_rfl) (by kernel_rfl) (by kernel_rfl) (fun _ _ _ h => h) (Or.inl ⟨by rfl, ?_⟩) hHeld ?_
          rotate_left
          · intro wx hSw
            go_simp
            all_goals (with_reducible rfl)
          try simp only [Act.put, List.setIfInBounds_toArray, List.set_cons_zero, List.set_cons_succ]
          refine wpAnyH_take (i := 12) (oi := ⟨some 57, _, _, _, _, _⟩) (v := ?_) rfl (by kernel_rfl) (by kernel_rfl) (by kernel_rfl) (fun _ _ _ h => h) (Or.inl ⟨by rfl, ?_⟩) hHeld ?_
          rotate_left
          · intro wx hSw
            have hc := (hSw.1.cell i).trans (hptr_at g i hi)
            go_simp
            all_goals (with_reducible rfl)
          try simp only [Act.put, List.setIfInBounds_toArray, List.set_cons_zero, List.set_cons_succ]
          refine wpAnyH_take (i := 14) (oi := ⟨some 59, _, _, _, _, _⟩) (v := ?_) rfl (by kernel_rfl) (by kernel_rfl) (by kernel_rfl) (fun _ _ _ h => h) (Or.inl ⟨by rfl, ?_⟩) hHeld ?_
          rotate_left
          · intro wx hSw
            go_simp
            all_goals (with_reducible rfl)
          try simp only [Act.put, List.setIfInBounds_toArray, List.set_cons_zero, List.set_cons_succ]
          refine wpAnyH_take (i := 15) (oi := ⟨some 60, _, _, _, _, _⟩) (v := ?_) rfl (by kernel_rfl) (by kernel_rfl) (by kernel_rfl) (fun _ _ _ h => h) (Or.inl ⟨by rfl, ?_⟩) hHeld ?_
          rotate_left
          · intro wx hSw
            go_simp
            all_goals (with_reducible rfl)
          try simp only [Act.put, List.setIfInBounds_toArray, List.set_cons_zero, List.set_cons_succ]
          refine wpAnyH_take (i := 16) (oi := ⟨some 61, _, _, _, _, _⟩) (v := _) rfl (by kernel_rfl) (by kernel_rfl) (by kernel_rfl) (fun _ _ _ h => h) (yieldsIf_load_mid (by rfl) 58 _ rfl gr (i * 10) rfl (rh (R i) (P i) (V i)) _ (fun wx hSw => rall_range hSw.2 HFL.out hi) Tryd.underlying58 rfl (by rw [rh_len _ _ _ (HFL.out i hi)]; kernel_rfl)) hHeld ?_
          try simp only [Act.put, List.setIfInBounds_toArray, List.set_cons_zero, List.set_cons_succ]
          refine wpAnyH_ready (rs := [13]) (by kernel_rfl) (by simp) ?_
          refine AllReadyH.cons (o := ⟨some 58, _, _, _, _, _⟩) rfl (fun K hK => ?_) AllReadyH.nil
          go_simp
          refine (HSZ.out _ hb3').mono ?_
          rintro e w4 ⟨rfl, hw4⟩
          have hb4' : Below wr.heap.size wr w4 := by rw [← hw4]; exact hb3'
          have hh4 := hHeld
          rw [hw4] at hh4
          refine hK.out _ _ hh4 (fun hHeld => ?_)
          clear hK K
          try simp only [Act.put, List.setIfInBounds_toArray, List.set_cons_zero, List.set_cons_succ]
          refine wpAnyH_ready (rs := [17]) (by kernel_rfl) (by simp) ?_
          refine AllReadyH.cons (o := ⟨some 62, _, _, _, _, _⟩) rfl (fun K hK => ?_) AllReadyH.nil
          go_simp
          refine (HRZ.out _ hb4').mono ?_
          rintro e w5 ⟨rfl, hb5⟩
          have hb5' : Below wr.heap.size wr w5 := hb4'.trans (hb5.mono hb4'.size)
          refine hK.out _ _ (show HeldQ gh gr (hptr g) (rall R P V) _ from ⟨hHeld.1.below hb5 hHeld.1.lt, hHeld.2.below hb5 hHeld.2.lt⟩) (fun hHeld => ?_)
          clear hK K
          try simp only [Act.put, List.setIfInBounds_toArray, List.set_cons_zero, List.set_cons_succ]
          refine wpAnyH_take (i := 18) (oi := ⟨some 63, _, _, _, _, _⟩) (v := ?_) rfl (by kernel_rfl) (by kernel_rfl) (by kernel_rfl) (fun _ _ _ h => h) (Or.inl ⟨by rfl, ?_⟩) hHeld ?_
          rotate_left
          · intro wx hSw
            go_simp
            all_goals (with_reducible rfl)
          try simp only [Act.put, List.setIfInBounds_toArray, List.set_cons_zero, List.set_cons_succ]
          refine wpAnyH_take (i := 19) (oi := ⟨some 64, _, _, _, _, _⟩) (v := ?_) rfl (by kernel_rfl) (by kernel_rfl) (by kernel_rfl) (fun _ _ _ h => h) (Or.inl ⟨by rfl, ?_⟩) hHeld ?_
          rotate_left
          · intro wx hSw
            go_simp
            all_goals (with_reducible rfl)
          try simp only [Act.put, List.setIfInBounds_toArray, List.set_cons_zero, List.set_cons_succ]
          refine wpAnyH_done (by kernel_rfl) ?_ _
          refine NoPanic.normal ?_
          have PL5 := HPL.out.keep hb5' sr
          have sr5 : base ≤ w5.heap.size := Nat.le_trans sr hb5'.size
          have HP5 := Lib.hid PL5
          clear PL5 hb5' hb5 hb4' hw4 hb3' hb3 hb2' hb2 hHeld hh4
          go_wp2
          go_roundw
          case rel => exact ⟨i + 1, by omega, by go_num, sr5, HP5.out⟩
          case measure => simp [intOf]; omega
        · have ei : i = 4 := by omega
          subst ei
          have blr := PL.bel
          clear PL
          go_wp2_with (go_at_call 15; (with_reducible refine (HLIVE.out wr blr).mono ?_); rintro e w6 ⟨rfl, hb6⟩)
          go_ret
          exact ⟨rfl, HB.out ▸ (blr.trans (hb6.mono sr))⟩
theorem acts_bulk (l : List Act64) : (l.map fun y => (1 + 1 + 1 + ((y.f3.map fun y => 1).sum + 1) + 1)).sum = 5 * l.length + (l.map fun x => x.f3.length).sum := by
  induction l with
  | nil => rfl
  | cons x l ih =>
    rw [List.map_cons, List.sum_cons, ih, List.map_cons, List.sum_cons, List.length_cons, sum_ones]
    omega
theorem row_plays (a0 : List Act64) (o0 : a0.length * 48 ≤ 140737488351232 ∧ ∀ y, y ∈ a0 → ((Lit.int .i64 y.f0).wf = true) ∧ ((Lit.int .i64 y.f1).wf = true) ∧ ((Lit.int .i64 y.f2).wf = true) ∧ (y.f3.length * 1 ≤ 140737488351232 ∧ ∀ z, z ∈ y.f3 → (Lit.int .u8 z).wf = true))
    (hb : ((a0.map fun y => (1 + 1 + 1 + ((y.f3.map fun y => 1).sum + 1) + 1)).sum + 1) ≤ 1048576) (W : World) (A0 : Option Addr) (c0 : Nat)
    (hr0 : Kd.C k64 W A0 a0.length a0) (hc0 : a0.length ≤ c0) (hT : Tabs W) :
    Calls Tryd.prog 11 #[.slice A0 a0.length c0] W fun e w' => e = .returned (.bool true) ∧ Below W.heap.size W w' := by
  rw [acts_bulk] at hb
  refine law_plays a0 A0 a0.length c0 W rfl (by omega) (by omega) (fun k x hx => ?_) hT
  have hlt : k < a0.length := (List.getElem?_eq_some_iff.1 hx).1
  obtain ⟨ad, hA, hcell⟩ := hr0.2.2 (by omega)
  obtain ⟨cs, hl, hK, hcs⟩ := hcell k x hx
  obtain ⟨B, c, rfl, hle, hC⟩ := k64_open hK
  obtain ⟨cs0, hl0, hK0, hcs0⟩ := hcell 0 _ (List.getElem?_eq_getElem (show 0 < a0.length by omega))
  obtain ⟨B0, d0, rfl, _, _⟩ := k64_open hK0
  have hs := whole_addr (show W.cell? ad = _ by have h := hcs0 0 _ rfl; rwa [show ad.add (0 * k64.sz + 0) = ad from rfl] at h)
  obtain ⟨ab, ao, s⟩ := ad
  obtain rfl : s = none := hs
  obtain ⟨h1, h2⟩ := bytes_of_ok ((o0.2 x (List.mem_of_getElem? hx)).2.2.2).2
  have hsz : k64.sz = 4 := rfl
  refine ⟨ab, ao, B, c, hA, fun j v hv => ?_, hle, ?_, h2⟩
  · have h := hcs j v hv
    rw [Addr.add_mid, hsz] at h
    rw [show ao + k * 4 + j = ao + (k * 4 + j) by omega]
    exact h
  · show Kd.C _ _ _ _ _
    rw [h1]
    exact hC
end Go.Proofs.YtfedlgcpgfofjaaDoor.Sha
