/-
  DigestPlays: one step of play: Load.
-/
import Derived.Test.YtfedlgcpgfofjaaDoorDPlay1
namespace Go.Proofs.YtfedlgcpgfofjaaDoor.Sha
open Go.RowKit Go.Proofs.YtfedlgcpgfofjaaDoorW.PrintWords Go.Proofs.YtfedlgcpgfofjaaDoor.PAll Go.Proofs.YtfedlgcpgfofjaaDoor.Plain
set_option linter.unusedVariables false
set_option linter.unusedSimpArgs false
set_option maxRecDepth 100000 in
set_option maxHeartbeats 4000000 in
theorem play_load (hh tt : Int) (i j : Nat) (p : List Nat) (B : Option Addr) (n c : Nat) (g : Nat → Nat) (R : Nat → List Nat) (P : Nat → Nat) (A : Nat → List Nat) (V : Nat → Value) (base M : Nat) (w : World) (hi : i < 4) (hj : j < 4)
    (hsi : ∀ W : World, Calls Tryd.prog 56 #[.int .i64 hh] W fun e w' => e = .returned (.int .i64 (i : Int)) ∧ W = w') (hsj : ∀ W : World, Calls Tryd.prog 56 #[.int .i64 tt] W fun e w' => e = .returned (.int .i64 (j : Int)) ∧ W = w')
    (hn : n = p.length) (hnc : n ≤ c) (hnM : M + n ≤ 3000000) (hM : 64 ≤ M) (hpa : All 256 p) (hC : ∀ U : World, Below base w U → C8 U B p.length p) (hbase : base ≤ w.heap.size) (hF : Four w base M g R P A V) (hT : Tabs w) (h2b : 2 < base) :
    Calls Tryd.prog 42 #[.agg #[.int .i64 7, .int .i64 hh, .int .i64 tt, .slice B n c], .agg (hptr g).toArray, .agg (rall R P V).toArray] w (Stepped base (M + n) w g) := by
  have H1 := Lib.hid hsi; have H2 := Lib.hid hsj
  have HN := Lib.hid hn; have HPA := Lib.hid hpa; have HC := Lib.hid hC; have HF := Lib.hid hF; have HT := Lib.hid hT
  clear hsi hsj hn hpa hC hF hT
  go_enter Tryd.func42, Tryd.ntmps42
  go_upto_region 1 with fail
  obtain ⟨w0, hw0⟩ : ∃ W : World, W = (((((w.alloc (.cells #[.int .i64 7, .int .i64 hh, .int .i64 tt, .slice B n c] 64)).alloc (.cells (hptr g).toArray 54)).alloc (.cells (rall R P V).toArray 60)).alloc (.cells z54.toArray 54)).alloc (.cells z60.toArray 60)) := ⟨_, rfl⟩
  change Code.wp _ _ _ _ (((((w.alloc (.cells #[.int .i64 7, .int .i64 hh, .int .i64 tt, .slice B n c] 64)).alloc (.cells (hptr g).toArray 54)).alloc (.cells (rall R P V).toArray 60)).alloc (.cells z54.toArray 54)).alloc (.cells z60.toArray 60))
  rw [← hw0]
  have z0 : w0.heap.size = w.heap.size + 5 := by rw [hw0]; simp
  have BO0 : Blk w0 w.heap.size 64 #[.int .i64 7, .int .i64 hh, .int .i64 tt, .slice B n c] := by rw [hw0]; exact ((((Blk.new w 64 _).alloc _).alloc _).alloc _).alloc _
  have BH0 : Blk w0 (w.heap.size + 1) 54 (hptr g).toArray := by rw [hw0]; exact (((Blk.new_ (w.alloc _) 54 _ _ (by simp)).alloc _).alloc _).alloc _
  have BR0 : Blk w0 (w.heap.size + 1 + 1) 60 (rall R P V).toArray := by rw [hw0]; exact ((Blk.new_ _ 60 _ _ (by simp)).alloc _).alloc _
  have B60 : Blk w0 (w.heap.size + 1 + 1 + 1) 54 z54.toArray := by rw [hw0]; exact (Blk.new_ _ 54 _ _ (by simp)).alloc _
  have B70 : Blk w0 (w.heap.size + 1 + 1 + 1 + 1) 60 z60.toArray := by rw [hw0]; exact Blk.new_ _ 60 _ _ (by simp)
  have hb0 : Below w.heap.size w w0 := by rw [hw0]; exact (((((Below.refl _ _).alloc (Nat.le_refl _) _).alloc (by simp) _).alloc (by simp; omega) _).alloc (by simp; omega) _).alloc (by simp; omega) _
  clear hw0
  have c1 : w0.cell? ⟨w.heap.size, 1, none⟩ = some (.int .i64 hh) := BO0.cell 1
  have c2 : w0.cell? ⟨w.heap.size, 2, none⟩ = some (.int .i64 tt) := BO0.cell 2
  go_quiet ((go_at_call 56; first | exact quiet_left (H1.out _) | exact quiet_left (H2.out _) | exact quiet_add_left (H1.out _) | exact quiet_add_left (H2.out _)))
  obtain ⟨w1, hw1⟩ : ∃ W : World, W = w0.drewN nq := ⟨_, rfl⟩
  rw [← hw1]
  have z1 : w1.heap.size = w.heap.size + 5 := by rw [hw1]; exact z0
  have BO1 : Blk w1 w.heap.size 64 #[.int .i64 7, .int .i64 hh, .int .i64 tt, .slice B n c] := by rw [hw1]; exact BO0.drewN nq
  have BH1 : Blk w1 (w.heap.size + 1) 54 (hptr g).toArray := by rw [hw1]; exact BH0.drewN nq
  have BR1 : Blk w1 (w.heap.size + 1 + 1) 60 (rall R P V).toArray := by rw [hw1]; exact BR0.drewN nq
  have B61 : Blk w1 (w.heap.size + 1 + 1 + 1) 54 z54.toArray := by rw [hw1]; exact B60.drewN nq
  have B71 : Blk w1 (w.heap.size + 1 + 1 + 1 + 1) 60 z60.toArray := by rw [hw1]; exact B70.drewN nq
  have hb1 : Below w.heap.size w w1 := by rw [hw1]; exact below_drewN hb0 nq
  have F1 := HF.out.keep hb1
  have T1 := HT.out.below hb1
  have HFL := Lib.hid F1.lens
  have Z1 := Lib.hid z1
  clear BO0 BH0 BR0 B60 B70 hb0 z0 c1 c2 hw1 z1
  have c0 : w1.cell? ⟨w.heap.size, 0, none⟩ = some (.int .i64 7) := BO1.cell 0
  have i0 : (0 : Int) ≤ (i : Int) := by omega
  have i4 : (i : Int) < 4 := by omega
  have j0 : (0 : Int) ≤ (j : Int) := by omega
  have j4 : (j : Int) < 4 := by omega
  have HRL := Lib.hid (rall_len R P V F1.lens)
  have HRO := Lib.hid (rall_one R P V F1.ones)
  obtain ⟨z1a, z1b⟩ : w.heap.size + 5 ≤ w1.heap.size ∧ w1.heap.size ≤ w.heap.size + 5 := by have := Z1.out; omega
  have q1 : w1.cell? ⟨w.heap.size + 1, i, none⟩ = some (.pointer (some ⟨g i, 0, none⟩)) := (BH1.cell i).trans (hptr_at g i hi)
  have p1 := F1.each i hi
  have hmost := p1.most
  have hfew := p1.few
  have hb1b : Below base w w1 := hb1.mono hbase
  have HF1 := Lib.hid F1; have HP1 := Lib.hid p1; have HT1 := Lib.hid T1
  have c3 : (w1.alloc (.cells #[] 5)).cell? ⟨w.heap.size, 3, none⟩ = some (.slice B n c) := (BO1.alloc _).cell 3
  clear T1 F1 p1
  go_upto_region 32 with (first
    | (at_builtin; refine wpl_append rfl _ _ _ rfl info_byte Tryd.underlying22 w1.heap.size (.slice (some ⟨w1.heap.size, 0, none⟩) 0 0) [] rfl (Own.nil_alloc w1 _ _ rfl (Nat.le_refl _)) B c n p rfl HN.out
          (HC.out _ (hb1b.alloc (by omega) _)) (by rw [← HN.out]; simp; omega) (by simp) ?_
       intro va wa Oa Ga _
       rw [List.nil_append] at Oa
       have hba : Below w1.heap.size w1 wa := ((Below.refl _ _).alloc (Nat.le_refl _) _).grown Ga (by simp) (by simp [Value.ownBlock])
       have ca : wa.cell? ⟨w.heap.size, 0, none⟩ = some (.int .i64 7) := (hba.cell (p := ⟨w.heap.size, 0, none⟩) (by show w.heap.size < w1.heap.size; omega)).trans c0
       clear Ga c3))
  obtain ⟨b, hbp⟩ : ∃ b, b = p := ⟨_, rfl⟩
  have hba2 : All 256 b := by rw [hbp]; exact HPA.out
  have hbl : b.length ≤ 3000000 := by rw [hbp, ← HN.out]; omega
  rw [← hbp] at Oa
  obtain ⟨Ab, nb, cb, hnb0, hvb, hcb0⟩ := Oa.arg_
  subst hvb
  clear hnb0 hcb0
  obtain ⟨w2, hw2⟩ : ∃ W : World, W = wa := ⟨_, rfl⟩
  rw [← hw2] at Oa hba
  rw [← hw2]
  have Ob2 := Oa
  have hb2 := hba
  clear Oa hba hw2 hbp ca
  have s2 := hb2.size
  have hnb : nb = b.length := (Own.c8 Ob2).1
  have ncb := (Own.c8 Ob2).2.1
  have hb2b : Below base w w2 := hb1b.trans (hb2.mono (by omega))
  have HNB := Lib.hid hnb; have HBA := Lib.hid hba2
  have nb0 : nb ≤ 3000000 := by omega
  have hlent : Calls Tryd.prog 13 #[.slice Ab nb cb] w2 fun e w' => ∃ gf cf, e = .returned (.slice (some ⟨gf, 0, none⟩) (nb + 64) cf) ∧ Own w' w2.heap.size (.slice (some ⟨gf, 0, none⟩) (nb + 64) cf) (b ++ marks) ∧ Below w2.heap.size w2 w' := by
    have hlen := lent_any b Ab cb w2 (by omega) (by omega) (Own.c8 Ob2).2.2
    rw [← hnb] at hlen
    refine hlen.mono fun e w' ⟨v, he, hO, hb⟩ => ?_
    obtain ⟨gf, cf, hv, _⟩ := hO.pos (by rw [List.length_append, marks_len]; omega)
    rw [show (b ++ marks).length = nb + 64 by rw [List.length_append, marks_len, hnb]] at hv
    subst hv
    exact ⟨gf, cf, he, hO, hb⟩
  have hkept : ∀ (U : World) (gf cf : Nat), nb + 64 ≤ cf → C8 U (some ⟨gf, 0, none⟩) (nb + 64) (b ++ marks) → C8 U Ab b.length b → Calls Tryd.prog 16 #[.slice (some ⟨gf, 0, none⟩) (nb + 64) cf, .slice Ab nb cb] U fun e w' => e = .returned (.bool true) ∧ Below U.heap.size U w' := fun U gf cf hcf hc1 hc2 => by
    have h := kept_any b (some ⟨gf, 0, none⟩) Ab (nb + 64) cf cb U (by omega) (by omega) hcf (by omega) hc1 hc2
    rwa [← hnb] at h
  obtain ⟨E, hE⟩ : ∃ E, E = loadErr b := ⟨_, rfl⟩
  have HKEPT := Lib.hid hkept; have HLENT := Lib.hid hlent
  clear hlent hkept hnb hba2
  by_cases hE0 : E = 0
  · subst hE0
    obtain ⟨hl104, hnum⟩ := load_ok hE.symm
    obtain ⟨Wd, hWd⟩ : ∃ X, X = wordsOf b := ⟨_, rfl⟩
    obtain ⟨past, hpast⟩ : ∃ X, X = numOf b - numOf b % 64 := ⟨_, rfl⟩
    obtain ⟨al, hal⟩ : ∃ X, X = (restOf b).take (numOf b % 64) := ⟨_, rfl⟩
    have hWl : Wd.length = 8 := by rw [hWd]; exact wordsOf_len b
    have hWa : All 4294967296 Wd := by rw [hWd]; exact wordsOf_all HBA.out
    have hpm : past % 64 = 0 := by rw [hpast]; omega
    have hpf : past ≤ 1152921504606846976 := by rw [hpast]; omega
    have hall : al.length ≤ 64 := by rw [hal, List.length_take]; have := Nat.mod_lt (numOf b) (show 0 < 64 by decide); omega
    have hala : All 256 al := by rw [hal]; unfold restOf; exact ((HBA.out.drop 32).take 64).take _
    have hld : ∀ (U : World) (A' : Option Addr) (c' : Nat), nb ≤ c' → C8 U A' b.length b → TabF U → Calls Tryd.prog 45 #[.slice A' nb c'] U fun e w' => e = .returned (.tuple #[.pointer (some ⟨U.heap.size, 0, none⟩), .int .i64 0]) ∧ HashAt w' U.heap.size Wd past al ∧ Below U.heap.size U w' := fun U A' c' h1 h2 h3 => by
      refine (load_any b A' nb c' U HNB.out h1 HBA.out h2 h3).mono fun e w' ⟨hb, h⟩ => ?_
      rcases h with ⟨h4, _⟩ | ⟨_, h5, h6⟩
      · exact absurd hE.symm h4
      · exact ⟨h5, by rw [hWd, hpast, hal]; exact load_hash HBA.out hl104 h6, hb⟩
    have hrl : ∀ (U : World), C8 U Ab b.length b → Calls Tryd.prog 59 #[.slice Ab nb cb] U fun e w' => ∃ A' n' c', e = .returned (.tuple #[.agg (rh Wd past (.slice A' n' c')).toArray, .int .i64 0]) ∧ Own w' U.heap.size (.slice A' n' c') al ∧ Below U.heap.size U w' := fun U h2 => by
      refine (rload_any b Ab nb cb U HNB.out ncb HBA.out h2).mono fun e w' ⟨hb, h⟩ => ?_
      rcases h with ⟨h4, _⟩ | ⟨_, A', n', c', h5, h6⟩
      · exact absurd hE.symm h4
      · exact ⟨A', n', c', by rw [hWd, hpast]; exact h5, by rw [hal]; exact h6, hb⟩
    have HLD := Lib.hid hld; have HRL2 := Lib.hid hrl; have HWL := Lib.hid hWl
    clear hld hrl hE hWd hpast hal hnum hl104 hWl
    go_upto_region 35 with (first
      | (go_at_call 13; (with_reducible refine HLENT.out.mono ?_); rintro e w3 ⟨gf, cf, rfl, Of3, hb3⟩
         have Ob3 := Ob2.below hb3
         have hb3' : Below w1.heap.size w1 w3 := hb2.trans (hb3.mono s2)
         have s3 := hb3.size
         have Lf := Of3.lt gf rfl
         have hTk := Of3.take nb (by omega)
         have hTe : (b ++ marks).take nb = b := by rw [HNB.out]; exact List.take_left' rfl
         rw [hTe] at hTk
         have ncf := (Own.c8 hTk).2.1
         have hC3 := (Own.c8 hTk).2.2
         have hcf := (Own.c8 Of3).2.1
         have hTF := (HT1.out.below hb3').2.2.1
         have m0 : (0 : Int) ≤ (nb : Int) := by omega
         have m1 : (nb : Int) ≤ (cf : Int) := by omega
         clear hTe hTk Ob2 hb3)
      | (go_at_call 45; (with_reducible refine (HLD.out w3 _ _ ncf hC3 hTF).mono ?_); rintro e w4 ⟨rfl, N4, hb4⟩
         have Ob4 := Ob3.below hb4
         have Of4 := Of3.below hb4
         have hb4' : Below w1.heap.size w1 w4 := hb3'.trans (hb4.mono (by omega))
         have s4 := hb4.size
         have l4 := N4.lt
         have hC4 := (Own.c8 Ob4).2.2
         clear hC3 hTF hb4 Ob3 Of3 hb3')
      | (go_at_call 59; (with_reducible refine (HRL2.out w4 hC4).mono ?_); rintro e w5 ⟨Av, nv, cv, rfl, Ov5, hb5⟩
         have Ob5 := Ob4.below hb5
         have Of5 := Of4.below hb5
         have N5 := N4.below hb5
         have hb5' : Below w1.heap.size w1 w5 := hb4'.trans (hb5.mono (by omega))
         have s5 := hb5.size
         have Lv := fun (x : Nat) (hx : (Value.slice Av nv cv).ownBlock = some x) => Ov5.lt x hx
         have HLV := Lib.hid Lv
         clear hC4 N4 Ob4 Of4 hb4' hb5 Lv)
      | (refine wpl_store rfl 58 _ _ rfl w5.heap.size 0 rfl 58 [] rzero [] (rh Wd past (.slice Av nv cv)) rfl (Blk.new w5 58 rzero.toArray) rfl (by rw [rh_len _ _ _ HWL.out]; rfl) (by rw [rh_len _ _ _ HWL.out]; kernel_rfl) (rh_one _ _ _ rfl) ?_
         intro w6 S6 O6
         have a6 : Below w5.heap.size w5 w6 := O6.below ((Below.refl _ _).alloc (Nat.le_refl _) _) (Nat.le_refl _)
         have hb6' : Below w1.heap.size w1 w6 := hb5'.trans (a6.mono (by omega))
         have Ob6 := Ob5.below a6
         have Of6 := Of5.below a6
         have N6 := N5.below a6
         have Ov6 := Ov5.below a6
         have s6 : w6.heap.size = w5.heap.size + 1 := by rw [O6.size]; simp
         have l6 := S6.lt
         clear O6 a6 Ob5 Of5 N5 Ov5 hb5'))
    go_wp2_with (first
      | (go_at_call 31; (with_reducible refine (num_anyQ _ _).mono ?_); rintro e w7 ⟨rfl, hb7⟩
         have hb7' : Below w1.heap.size w1 w7 := hb6'.trans (hb7.mono (by omega))
         have Ob7 := Ob6.below hb7
         have Of7 := Of6.below hb7
         have s7 := hb7.size
         have hCf7 : C8 w7 (some ⟨gf, 0, none⟩) (nb + 64) (b ++ marks) := by
           have h := (Own.c8 Of7).2.2
           rwa [← (Own.c8 Of7).1] at h
         have hCb7 := (Own.c8 Ob7).2.2
         clear Ob6 Of6)
      | (go_at_call 16; (with_reducible refine (HKEPT.out w7 gf cf hcf hCf7 hCb7).mono ?_); rintro e w8 ⟨rfl, hb8⟩
         have hb8' : Below w1.heap.size w1 w8 := hb7'.trans (hb8.mono (by omega))
         have Of8 := Of7.below hb8
         have s8 := hb8.size
         clear hCf7 hCb7 Of7 Ob7))
    go_loopw [21] (fun v wr => ∃ k : Nat, k ≤ nb ∧ v = .int .i64 (k : Int) ∧ Only gf w8 wr ∧ ∃ q, Own wr w2.heap.size (.slice (some ⟨gf, 0, none⟩) (nb + 64) cf) q) (fun v _ => nb - (intOf v).toNat)
    case atStart => exact ⟨0, by omega, rfl, Only.refl_ _ _, _, Of8⟩
    case round =>
      clear Of8
      obtain ⟨k, hk, rfl, Oq, q, Of⟩ := hrel
      by_cases hlt : k < nb
      · have hql := (Own.c8 Of).1
        obtain ⟨x, hx⟩ : ∃ x, q[k]? = some x := ⟨_, List.getElem?_eq_getElem (by omega)⟩
        have c1 : wr.cell? ⟨gf, k, none⟩ = some (.int .u8 (x : Int)) := by have h := Of.cellAt hx; rwa [Nat.zero_add] at h
        have c2 := Of.blk_frozen k
        have k0 : (0 : Int) ≤ (k : Int) := by omega
        have k1 : (k : Int) < (nb : Int) := by omega
        have k2 : (k : Int) < (nb : Int) + 64 := by omega
        have HO := Lib.hid Of; have HOQ := Lib.hid Oq
        clear hx hql Of Oq
        go_wp2
        go_roundw
        case rel => exact ⟨k + 1, by omega, by go_num, HOQ.out.setC k _, _, HO.out.set_ k 99⟩
        case measure => simp [intOf]; omega
      · have k1 : ¬ (k : Int) < (nb : Int) := by omega
        have kpr : ∀ q, q < w1.heap.size → wr.heap[q]? = w1.heap[q]? := fun q h1 => (Oq.block q (by omega)).trans ((hb8.block q (by omega)).trans ((hb7.block q (by omega)).trans (hb6'.block q h1)))
        have sr : wr.heap.size ≤ w8.heap.size ∧ w8.heap.size ≤ wr.heap.size := by have := Oq.size; omega
        obtain ⟨sr1, sr2⟩ := sr
        obtain ⟨s6a, s6b⟩ : w5.heap.size + 1 ≤ w6.heap.size ∧ w6.heap.size ≤ w5.heap.size + 1 := by have := s6; omega
        have hbr : Below w.heap.size w wr := Oq.below (hb1.trans (hb8'.mono (by omega))) (by omega)
        have BHr : Blk wr (w.heap.size + 1) 54 (hptr g).toArray := (kpr _ (by omega)).trans BH1
        have BRr : Blk wr (w.heap.size + 1 + 1) 60 (rall R P V).toArray := (kpr _ (by omega)).trans BR1
        have f2 := BHr.frozen j
        have q2 : wr.cell? ⟨w.heap.size + 1, j, none⟩ = some (.pointer (some ⟨g j, 0, none⟩)) := (BHr.cell j).trans (hptr_at g j hj)
        have up6 : ∀ q, q < w6.heap.size → q ≠ gf → wr.heap[q]? = w6.heap[q]? := fun q h1 h2 => (Oq.block q h2).trans ((hb8.block q (by omega)).trans (hb7.block q h1))
        have S6r : Blk (wr.setCell ⟨w.heap.size + 1, j, none⟩ (.pointer (some ⟨w3.heap.size, 0, none⟩))) w5.heap.size 58 ([] ++ rh Wd past (.slice Av nv cv) ++ []).toArray := Blk.far ((up6 _ (by omega) (by omega)).trans S6) (p := ⟨w.heap.size + 1, j, none⟩) (by show w5.heap.size ≠ w.heap.size + 1; omega) _
        have BRj : Blk (wr.setCell ⟨w.heap.size + 1, j, none⟩ (.pointer (some ⟨w3.heap.size, 0, none⟩))) (w.heap.size + 1 + 1) 60 (rpre R P V j ++ rh (R j) (P j) (V j) ++ rpost R P V j).toArray := by
          rw [← rall_mid R P V j hj]
          exact BRr.far (p := ⟨w.heap.size + 1, j, none⟩) (by show w.heap.size + 1 + 1 ≠ w.heap.size + 1; omega) _
        have HS6 := Lib.hid S6r; have HBRj := Lib.hid BRj; have HBHr := Lib.hid BHr; have HOQ := Lib.hid Oq; have HKPR := Lib.hid kpr; have HUP := Lib.hid up6; have HBR := Lib.hid hbr
        clear S6r BRj BHr BRr Oq Of kpr up6 s6 hbr
        go_upto_region 44 with (first
        | (refine wpl_load rfl 58 _ rfl w5.heap.size 0 rfl 58 [] (rh Wd past (.slice Av nv cv)) [] HS6.out rfl _ Tryd.underlying58 rfl (by rw [rh_len _ _ _ HWL.out]; kernel_rfl) ?_)
        | (refine wpl_store rfl 58 _ _ rfl (w.heap.size + 1 + 1) (j * 10) rfl 60 (rpre R P V j) (rh (R j) (P j) (V j)) (rpost R P V j) (rh Wd past (.slice Av nv cv)) rfl HBRj.out (rpre_len R P V HFL.out j hj) (by rw [rh_len _ _ _ HWL.out, rh_len _ _ _ (HFL.out j hj)]) (by rw [rh_len _ _ _ HWL.out]; kernel_rfl) (rh_one _ _ _ rfl) ?_
           intro w9 S9 O9
           rw [rall_upd R P V j hj] at S9))
        obtain ⟨ws, hws⟩ : ∃ X : World, X = wr.setCell ⟨w.heap.size + 1, j, none⟩ (.pointer (some ⟨w3.heap.size, 0, none⟩)) := ⟨_, rfl⟩
        rw [← hws] at O9
        have gs : ∀ q, q ≠ w.heap.size + 1 → ws.heap[q]? = wr.heap[q]? := fun q h => by rw [hws]; exact Below.heap_setCell wr ⟨w.heap.size + 1, j, none⟩ _ q h
        have hbs : Below w.heap.size w ws := by rw [hws]; exact HBR.out.setCell (by show w.heap.size ≤ w.heap.size + 1; omega) _
        have hbE : Below w.heap.size w w9 := O9.below hbs (by omega)
        have kpE : ∀ q, q < w1.heap.size → q ≠ w.heap.size + 1 → q ≠ w.heap.size + 1 + 1 → w9.heap[q]? = w1.heap[q]? := fun q h1 h2 h3 => (O9.block q h3).trans ((gs q h2).trans (HKPR.out q h1))
        have BOE : Blk w9 w.heap.size 64 #[.int .i64 7, .int .i64 hh, .int .i64 tt, .slice B n c] := (kpE _ (by omega) (by omega) (by omega)).trans BO1
        have B6E : Blk w9 (w.heap.size + 1 + 1 + 1) 54 z54.toArray := (kpE _ (by omega) (by omega) (by omega)).trans B61
        have B7E : Blk w9 (w.heap.size + 1 + 1 + 1 + 1) 60 z60.toArray := (kpE _ (by omega) (by omega) (by omega)).trans B71
        have BHE : Blk w9 (w.heap.size + 1) 54 (hptr (upd g j w3.heap.size)).toArray := by
          have h := HBHr.out.set_ j (.pointer (some ⟨w3.heap.size, 0, none⟩))
          rw [hptr_set g j _ hj, ← hws] at h
          exact h.only O9 (by omega)
        have BRE := S9
        have upE : ∀ q, q < w6.heap.size → q ≠ gf → q ≠ w.heap.size + 1 → q ≠ w.heap.size + 1 + 1 → w9.heap[q]? = w6.heap[q]? := fun q h1 h2 h3 h4 => (O9.block q h4).trans ((gs q h3).trans (HUP.out q h1 h2))
        have NE : HashAt w9 w3.heap.size Wd past al := N6.keep (upE _ (by omega) (by omega) (by omega) (by omega))
        have OvE : Own w9 base (.slice Av nv cv) al := own_weaken (own_move Ov6 (fun x hx => by have := HLV.out x hx; exact upE x (by omega) (by omega) (by omega) (by omega))) (by omega)
        have FE : Four w9 base (M + n) (upd g j w3.heap.size) (upd R j Wd) (upd P j past) (upd A j al) (upd V j (.slice Av nv cv)) :=
          HF.out.set_ (by omega) j hj ⟨by omega, NE, HWL.out, hWa, hpm, hpf, by omega, hala, OvE⟩ (fun k hk hne => ((HF.out.each k hk).below hbE).more (by omega)) (fun k hk hne => by have := (HF.out.each k hk).hash.lt; omega)
        have HZE : Hid (∀ k, k < 4 → upd g j w3.heap.size k ≠ w.heap.size + 1 + 1 + 1 ∧ upd g j w3.heap.size k ≠ w.heap.size + 1 + 1 + 1 + 1) := fun k hk => by
          by_cases e : k = j
          · subst e; rw [upd_self]; omega
          · rw [upd_ne _ _ _ _ e]; have := (HF.out.each k hk).hash.lt; omega
        have HZV : Hid (∀ k, k < 4 → ∀ x, (upd V j (.slice Av nv cv) k).ownBlock = some x → x ≠ w.heap.size + 1 + 1 + 1 ∧ x ≠ w.heap.size + 1 + 1 + 1 + 1) := fun k hk x hx => by
          by_cases e : k = j
          · subst e; rw [upd_self] at hx; have := HLV.out x hx; omega
          · rw [upd_ne _ _ _ _ e] at hx; have := own_lt (HF.out.each k hk).own x hx; omega
        have HKQ : Hid (∀ q, q < w.heap.size → (∀ k, k < 4 → g k ≠ q) → w9.heap[q]? = w.heap[q]?) := fun q h1 _ => hbE.block q h1
        clear HRL HRO
        have HRL := Lib.hid (rall_len (upd R j Wd) (upd P j past) (upd V j (.slice Av nv cv)) (FE).lens)
        have HRO := Lib.hid (rall_one (upd R j Wd) (upd P j past) (upd V j (.slice Av nv cv)) (FE).ones)
        have HFE := Lib.hid FE
        have HBE := Lib.hid (hbE.mono hbase)
        refine wp_region_noPanic ?_
        refine wp_region_held_drew (S := Held3 w.heap.size (w.heap.size + 1) (w.heap.size + 1 + 1) [.int .i64 7, .int .i64 hh, .int .i64 tt, .slice B n c] (hptr (upd g j w3.heap.size)) (rall (upd R j Wd) (upd P j past) (upd V j (.slice Av nv cv)))) (by kernel_rfl) ?_ (fun hHeld => ?_)
        · exact ⟨BOE, BHE, BRE⟩
        refine wpAnyH_take (i := 0) (oi := ⟨some 210, _, _, _, _, _⟩) (v := _) rfl (by kernel_rfl) (by kernel_rfl) (by kernel_rfl) (fun _ _ _ h => h) (yieldsIf_load_mid (by rfl) 54 _ rfl (w.heap.size + 1) 0 rfl (hptr (upd g j w3.heap.size)) _ (fun wx hSw => blk_range hSw.2.1) Tryd.underlying54 rfl (by kernel_rfl)) hHeld ?_
        try simp only [Act.put, List.setIfInBounds_toArray, List.set_cons_zero, List.set_cons_succ]
        refine wpAnyH_take (i := 1) (oi := ⟨some 211, _, _, _, _, _⟩) (v := _) rfl (by kernel_rfl) (by kernel_rfl) (by kernel_rfl) (fun _ _ _ h => h) (yieldsIf_load_mid (by rfl) 60 _ rfl (w.heap.size + 1 + 1) 0 rfl (rall (upd R j Wd) (upd P j past) (upd V j (.slice Av nv cv))) _ (fun wx hSw => blk_range hSw.2.2) Tryd.underlying60 rfl (by rw [HRL.out]; kernel_rfl)) hHeld ?_
        try simp only [Act.put, List.setIfInBounds_toArray, List.set_cons_zero, List.set_cons_succ]
        refine wpAnyH_ready (rs := [2]) (by kernel_rfl) (by simp) ?_
        refine AllReadyH.cons (o := ⟨none, _, _, _, _, _⟩) rfl (fun K hK => ?_) AllReadyH.nil
        refine wpr_if (by rfl) ?_
        refine wpr_store 54 _ _ rfl (w.heap.size + 1 + 1 + 1) 0 rfl 54 [] z54 [] (hptr (upd g j w3.heap.size)) rfl (by rw [List.nil_append, List.append_nil]; exact B6E) rfl rfl (by kernel_rfl) (hptr_one _) ?_
        intro wS6 S6 O6
        refine hK.out _ _ (hHeld.keep (O6.block _ (by omega)) (O6.block _ (by omega)) (O6.block _ (by omega))) (fun hHeld => ?_)
        clear hK K
        try simp only [Act.put, List.setIfInBounds_toArray, List.set_cons_zero, List.set_cons_succ]
        refine wpAnyH_ready (rs := [3]) (by kernel_rfl) (by simp) ?_
        refine AllReadyH.cons (o := ⟨none, _, _, _, _, _⟩) rfl (fun K hK => ?_) AllReadyH.nil
        refine wpr_if (by rfl) ?_
        refine wpr_store 60 _ _ rfl (w.heap.size + 1 + 1 + 1 + 1) 0 rfl 60 [] z60 [] (rall (upd R j Wd) (upd P j past) (upd V j (.slice Av nv cv))) rfl (by rw [List.nil_append, List.append_nil]; exact (Blk.drew (B7E : Blk _ _ 60 z60.toArray)).only O6 (show (w.heap.size + 1 + 1 + 1 + 1) ≠ (w.heap.size + 1 + 1 + 1) by omega)) rfl (by rw [HRL.out]; rfl) (by rw [HRL.out]; kernel_rfl) HRO.out ?_
        intro wS7 S7 O7
        refine hK.out _ _ (hHeld.keep (O7.block _ (by omega)) (O7.block _ (by omega)) (O7.block _ (by omega))) (fun hHeld => ?_)
        clear hK K
        try simp only [Act.put, List.setIfInBounds_toArray, List.set_cons_zero, List.set_cons_succ]
        refine wpAnyH_take (i := 4) (oi := ⟨some 8, _, _, _, _, _⟩) (v := ?_) rfl (by kernel_rfl) (by kernel_rfl) (by kernel_rfl) (fun _ _ _ h => h) (Or.inl ⟨by rfl, ?_⟩) hHeld ?_
        rotate_left
        · intro wx hSw
          go_simp
          all_goals (with_reducible rfl)
        try simp only [Act.put, List.setIfInBounds_toArray, List.set_cons_zero, List.set_cons_succ]
        refine wpAnyH_done (by kernel_rfl) ?_ _
        refine NoPanic.normal ?_
        go_wp2
        rw [List.nil_append, List.append_nil] at S6 S7
        have S6' := S6.only O7 (by omega)
        obtain ⟨FS, hbS⟩ := stepped_of HFE.out.drew (show Below base w w9.drew from ⟨HBE.out.os, HBE.out.tape, HBE.out.output, HBE.out.size, HBE.out.block⟩) O6 O7 (by omega) (by omega) HZE.out HZV.out HKQ.out (by omega) (by omega)
        exact bodyPost_ret (results_list (rs := [.cell 6 54, .cell 7 60, .tmp 8]) rfl (by simp) (.cell (w.heap.size + 1 + 1 + 1) 54 (hptr (upd g j w3.heap.size)).toArray (0, 0) _ rfl S6' Tryd.underlying54 rfl (by kernel_rfl) (.cell (w.heap.size + 1 + 1 + 1 + 1) 60 (rall (upd R j Wd) (upd P j past) (upd V j (.slice Av nv cv))).toArray (0, 0) _ rfl S7 Tryd.underlying60 rfl (by rw [List.size_toArray, HRL.out]; kernel_rfl) (.tmp .nil)))) rfl ⟨_, _, _, _, _, rfl, FS, hbS.1, hbS.2⟩
  · have hEi : ¬ ((E : Int) = 0) := by omega
    have hld : ∀ (U : World) (A' : Option Addr) (c' : Nat), nb ≤ c' → C8 U A' b.length b → TabF U → Calls Tryd.prog 45 #[.slice A' nb c'] U fun e w' => e = .returned (.tuple #[.pointer none, .int .i64 (E : Int)]) ∧ Below U.heap.size U w' := fun U A' c' h1 h2 h3 => by
      refine (load_any b A' nb c' U HNB.out h1 HBA.out h2 h3).mono fun e w' ⟨hb, h⟩ => ?_
      rcases h with ⟨h4, h5⟩ | ⟨h4, _⟩
      · exact ⟨by rw [hE]; exact h5, hb⟩
      · exact absurd (hE.trans h4) hE0
    have hrl : ∀ (U : World), C8 U Ab b.length b → Calls Tryd.prog 59 #[.slice Ab nb cb] U fun e w' => e = .returned (.tuple #[.agg rzero.toArray, .int .i64 (E : Int)]) ∧ Below U.heap.size U w' := fun U h2 => by
      refine (rload_any b Ab nb cb U HNB.out ncb HBA.out h2).mono fun e w' ⟨hb, h⟩ => ?_
      rcases h with ⟨h4, h5⟩ | ⟨h4, _⟩
      · exact ⟨by rw [hE]; exact h5, hb⟩
      · exact absurd (hE.trans h4) hE0
    have HLD := Lib.hid hld; have HRL2 := Lib.hid hrl
    clear hld hrl hE hE0
    go_upto_region 44 with (first
      | (go_at_call 13; (with_reducible refine HLENT.out.mono ?_); rintro e w3 ⟨gf, cf, rfl, Of3, hb3⟩
         have Ob3 := Ob2.below hb3
         have hb3' : Below w1.heap.size w1 w3 := hb2.trans (hb3.mono s2)
         have s3 := hb3.size
         have Lf := Of3.lt gf rfl
         have hTk := Of3.take nb (by omega)
         have hTe : (b ++ marks).take nb = b := by rw [HNB.out]; exact List.take_left' rfl
         rw [hTe] at hTk
         have ncf := (Own.c8 hTk).2.1
         have hC3 := (Own.c8 hTk).2.2
         have hcf := (Own.c8 Of3).2.1
         have hTF := (HT1.out.below hb3').2.2.1
         have m0 : (0 : Int) ≤ (nb : Int) := by omega
         have m1 : (nb : Int) ≤ (cf : Int) := by omega
         clear hTe hTk Ob2 hb3)
      | (go_at_call 45; (with_reducible refine (HLD.out w3 _ _ ncf hC3 hTF).mono ?_); rintro e w4 ⟨rfl, hb4⟩
         have Ob4 := Ob3.below hb4
         have Of4 := Of3.below hb4
         have hb4' : Below w1.heap.size w1 w4 := hb3'.trans (hb4.mono (by omega))
         have s4 := hb4.size
         have hC4 := (Own.c8 Ob4).2.2
         clear hC3 hTF hb4 Ob3 Of3 hb3')
      | (go_at_call 59; (with_reducible refine (HRL2.out w4 hC4).mono ?_); rintro e w5 ⟨rfl, hb5⟩
         have Ob5 := Ob4.below hb5
         have Of5 := Of4.below hb5
         have hb5' : Below w1.heap.size w1 w5 := hb4'.trans (hb5.mono (by omega))
         have s5 := hb5.size
         clear hC4 Ob4 Of4 hb4' hb5)
      | (refine wpl_store rfl 58 _ _ rfl w5.heap.size 0 rfl 58 [] rzero [] rzero rfl (Blk.new w5 58 rzero.toArray) rfl rfl (by kernel_rfl) (rh_one _ _ _ rfl) ?_
         intro w6 S6 O6
         have a6 : Below w5.heap.size w5 w6 := O6.below ((Below.refl _ _).alloc (Nat.le_refl _) _) (Nat.le_refl _)
         have hb6' : Below w1.heap.size w1 w6 := hb5'.trans (a6.mono (by omega))
         have Ob6 := Ob5.below a6
         have Of6 := Of5.below a6
         have s6 := a6.size
         clear O6 a6 Ob5 Of5 hb5' S6)
      | (go_at_call 31; (with_reducible refine (num_anyQ _ _).mono ?_); rintro e w7 ⟨rfl, hb7⟩
         have hb7' : Below w1.heap.size w1 w7 := hb6'.trans (hb7.mono (by omega))
         have Ob7 := Ob6.below hb7
         have Of7 := Of6.below hb7
         have s7 := hb7.size
         have hCf7 : C8 w7 (some ⟨gf, 0, none⟩) (nb + 64) (b ++ marks) := by
           have h := (Own.c8 Of7).2.2
           rwa [← (Own.c8 Of7).1] at h
         have hCb7 := (Own.c8 Ob7).2.2
         clear Ob6 Of6)
      | (go_at_call 16; (with_reducible refine (HKEPT.out w7 gf cf hcf hCf7 hCb7).mono ?_); rintro e w8 ⟨rfl, hb8⟩
         have hb8' : Below w1.heap.size w1 w8 := hb7'.trans (hb8.mono (by omega))
         have Of8 := Of7.below hb8
         have s8 := hb8.size
         clear hCf7 hCb7 Of7 Ob7))
    have BOE := BO1.below hb8' BO1.lt
    have BHE := BH1.below hb8' BH1.lt
    have BRE := BR1.below hb8' BR1.lt
    have B6E := B61.below hb8' B61.lt
    have B7E := B71.below hb8' B71.lt
    have FE := (HF1.out.keep hb8').more (show M ≤ M + n by omega)
    have HZE : Hid (∀ k, k < 4 → g k ≠ w.heap.size + 1 + 1 + 1 ∧ g k ≠ w.heap.size + 1 + 1 + 1 + 1) := fun k hk => by have := (HF.out.each k hk).hash.lt; omega
    have HZV : Hid (∀ k, k < 4 → ∀ x, (V k).ownBlock = some x → x ≠ w.heap.size + 1 + 1 + 1 ∧ x ≠ w.heap.size + 1 + 1 + 1 + 1) := fun k hk x hx => by have := own_lt (HF.out.each k hk).own x hx; omega
    have hbW : Below w.heap.size w w8 := hb1.trans (hb8'.mono (by omega))
    have HKQ : Hid (∀ q, q < w.heap.size → (∀ k, k < 4 → g k ≠ q) → w8.heap[q]? = w.heap[q]?) := fun q h1 _ => hbW.block q h1
    clear HRL HRO
    have HRL := Lib.hid (rall_len R P V (FE).lens)
    have HRO := Lib.hid (rall_one R P V (FE).ones)
    have HFE := Lib.hid FE
    have HBE := Lib.hid ((hb1.trans (hb8'.mono (by omega))).mono hbase)
    refine wp_region_noPanic ?_
    refine wp_region_held_drew (S := Held3 w.heap.size (w.heap.size + 1) (w.heap.size + 1 + 1) [.int .i64 7, .int .i64 hh, .int .i64 tt, .slice B n c] (hptr g) (rall R P V)) (by kernel_rfl) ?_ (fun hHeld => ?_)
    · exact ⟨BOE, BHE, BRE⟩
    refine wpAnyH_take (i := 0) (oi := ⟨some 210, _, _, _, _, _⟩) (v := _) rfl (by kernel_rfl) (by kernel_rfl) (by kernel_rfl) (fun _ _ _ h => h) (yieldsIf_load_mid (by rfl) 54 _ rfl (w.heap.size + 1) 0 rfl (hptr g) _ (fun wx hSw => blk_range hSw.2.1) Tryd.underlying54 rfl (by kernel_rfl)) hHeld ?_
    try simp only [Act.put, List.setIfInBounds_toArray, List.set_cons_zero, List.set_cons_succ]
    refine wpAnyH_take (i := 1) (oi := ⟨some 211, _, _, _, _, _⟩) (v := _) rfl (by kernel_rfl) (by kernel_rfl) (by kernel_rfl) (fun _ _ _ h => h) (yieldsIf_load_mid (by rfl) 60 _ rfl (w.heap.size + 1 + 1) 0 rfl (rall R P V) _ (fun wx hSw => blk_range hSw.2.2) Tryd.underlying60 rfl (by rw [HRL.out]; kernel_rfl)) hHeld ?_
    try simp only [Act.put, List.setIfInBounds_toArray, List.set_cons_zero, List.set_cons_succ]
    refine wpAnyH_ready (rs := [2]) (by kernel_rfl) (by simp) ?_
    refine AllReadyH.cons (o := ⟨none, _, _, _, _, _⟩) rfl (fun K hK => ?_) AllReadyH.nil
    refine wpr_if (by rfl) ?_
    refine wpr_store 54 _ _ rfl (w.heap.size + 1 + 1 + 1) 0 rfl 54 [] z54 [] (hptr g) rfl (by rw [List.nil_append, List.append_nil]; exact B6E) rfl rfl (by kernel_rfl) (hptr_one _) ?_
    intro wS6 S6 O6
    refine hK.out _ _ (hHeld.keep (O6.block _ (by omega)) (O6.block _ (by omega)) (O6.block _ (by omega))) (fun hHeld => ?_)
    clear hK K
    try simp only [Act.put, List.setIfInBounds_toArray, List.set_cons_zero, List.set_cons_succ]
    refine wpAnyH_ready (rs := [3]) (by kernel_rfl) (by simp) ?_
    refine AllReadyH.cons (o := ⟨none, _, _, _, _, _⟩) rfl (fun K hK => ?_) AllReadyH.nil
    refine wpr_if (by rfl) ?_
    refine wpr_store 60 _ _ rfl (w.heap.size + 1 + 1 + 1 + 1) 0 rfl 60 [] z60 [] (rall R P V) rfl (by rw [List.nil_append, List.append_nil]; exact (Blk.drew (B7E : Blk _ _ 60 z60.toArray)).only O6 (show (w.heap.size + 1 + 1 + 1 + 1) ≠ (w.heap.size + 1 + 1 + 1) by omega)) rfl (by rw [HRL.out]; rfl) (by rw [HRL.out]; kernel_rfl) HRO.out ?_
    intro wS7 S7 O7
    refine hK.out _ _ (hHeld.keep (O7.block _ (by omega)) (O7.block _ (by omega)) (O7.block _ (by omega))) (fun hHeld => ?_)
    clear hK K
    try simp only [Act.put, List.setIfInBounds_toArray, List.set_cons_zero, List.set_cons_succ]
    refine wpAnyH_take (i := 4) (oi := ⟨some 8, _, _, _, _, _⟩) (v := ?_) rfl (by kernel_rfl) (by kernel_rfl) (by kernel_rfl) (fun _ _ _ h => h) (Or.inl ⟨by rfl, ?_⟩) hHeld ?_
    rotate_left
    · intro wx hSw
      go_simp
      all_goals (with_reducible rfl)
    try simp only [Act.put, List.setIfInBounds_toArray, List.set_cons_zero, List.set_cons_succ]
    refine wpAnyH_done (by kernel_rfl) ?_ _
    refine NoPanic.normal ?_
    go_wp2
    rw [List.nil_append, List.append_nil] at S6 S7
    have S6' := S6.only O7 (by omega)
    obtain ⟨FS, hbS⟩ := stepped_of HFE.out.drew (show Below base w w8.drew from ⟨HBE.out.os, HBE.out.tape, HBE.out.output, HBE.out.size, HBE.out.block⟩) O6 O7 (by omega) (by omega) HZE.out HZV.out HKQ.out (by omega) (by omega)
    exact bodyPost_ret (results_list (rs := [.cell 6 54, .cell 7 60, .tmp 8]) rfl (by simp) (.cell (w.heap.size + 1 + 1 + 1) 54 (hptr g).toArray (0, 0) _ rfl S6' Tryd.underlying54 rfl (by kernel_rfl) (.cell (w.heap.size + 1 + 1 + 1 + 1) 60 (rall R P V).toArray (0, 0) _ rfl S7 Tryd.underlying60 rfl (by rw [List.size_toArray, HRL.out]; kernel_rfl) (.tmp .nil)))) rfl ⟨_, _, _, _, _, rfl, FS, hbS.1, hbS.2⟩
end Go.Proofs.YtfedlgcpgfofjaaDoor.Sha
