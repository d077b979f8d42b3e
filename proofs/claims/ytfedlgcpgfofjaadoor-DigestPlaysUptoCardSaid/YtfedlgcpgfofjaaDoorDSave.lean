/-
  (*Hash).Copy, (*Hash).Save: what the calls do, walked.
-/
import Derived.Test.YtfedlgcpgfofjaaDoorDBase3
namespace Go.Proofs.YtfedlgcpgfofjaaDoor.Sha
open Go.RowKit Go.Proofs.YtfedlgcpgfofjaaDoorW.PrintWords
set_option linter.unusedVariables false
theorem Blk.toApp {w : World} {g t : Nat} {l : List Value} (h : Blk w g t l.toArray) : Blk w g t ([] ++ l ++ []).toArray := by rwa [List.nil_append, List.append_nil]
theorem Blk.ofApp {w : World} {g t : Nat} {l : List Value} (h : Blk w g t ([] ++ l ++ []).toArray) : Blk w g t l.toArray := by rwa [List.nil_append, List.append_nil] at h
set_option maxRecDepth 100000 in
set_option maxHeartbeats 400000 in
theorem copy_any (g past : Nat) (r all : List Nat) (w : World) (hr : r.length = 8) (hH : HashAt w g r past all) :
    Calls Tryd.prog 21 #[.pointer (some ⟨g, 0, none⟩)] w fun e w' => e = .returned (.pointer (some ⟨w.heap.size, 0, none⟩)) ∧ HashAt w' w.heap.size r past all ∧ Below w.heap.size w w' := by
  obtain ⟨rest, hB, hrl, hrest, htl⟩ := hH
  obtain ⟨R, hR⟩ : ∃ R, R = regOf r all := ⟨_, rfl⟩
  have hRl : R.length = 8 := by rw [hR]; exact regOf_len hr all
  obtain ⟨tk, htk⟩ : ∃ tk, tk = past + all.length := ⟨_, rfl⟩
  rw [← hR, ← htk] at hB
  have HB := Lib.hid hB.toApp; have HRL := Lib.hid hRl; have HRS := Lib.hid hrl; have HR := Lib.hid hR; have HTK := Lib.hid htk
  have HB2 := Lib.hid hB
  clear hB hRl hrl hR htk
  go_enter Tryd.func21, Tryd.ntmps21
  go_wp2_with (first
    | (refine wpl_load rfl 76 _ rfl g 0 rfl 76 [] (hcells R rest tk) [] HB.out rfl _ Tryd.underlying76 rfl (by rw [hcells_len R rest tk HRL.out HRS.out]; kernel_rfl) ?_)
    | (refine wpl_store rfl 76 _ _ rfl w.heap.size 0 rfl 76 [] (hcells (List.replicate 8 0) (List.replicate 64 0) 0) [] (hcells R rest tk) rfl
        (by rw [List.nil_append, List.append_nil]; exact Blk.new_ w 76 (hcells (List.replicate 8 0) (List.replicate 64 0) 0).toArray _ rfl) rfl (by rw [hcells_len R rest tk HRL.out HRS.out]; rfl) (by rw [hcells_len R rest tk HRL.out HRS.out]; kernel_rfl) (hcells_one R rest tk) ?_
       intro w2 B2 O2))
  go_ret
  exact ⟨rfl, ⟨rest, by rw [← HR.out, ← HTK.out]; exact B2.ofApp, HRS.out, hrest, htl⟩, O2.below ((Below.refl _ _).alloc (Nat.le_refl _) _) (Nat.le_refl _)⟩
/-- A Hash as bytes. -/
def saveOf (r : List Nat) (past : Nat) (all : List Nat) : List Nat := bytesR (regOf r all) ++ (tailOf all ++ List.replicate (64 - all.length % 64) 0) ++ eight (past + all.length)
theorem hcells_rest {R rest : List Nat} {tk : Nat} (hR : R.length = 8) (j : Nat) (hj : j < rest.length) : (hcells R rest tk).toArray[8 + j]? = some (.int .u8 (rest.getD j 0 : Nat)) := by
  unfold hcells
  rw [List.getElem?_toArray, List.append_assoc, List.getElem?_append_right (by rw [List.length_map, hR]; omega), List.length_map, hR, Nat.add_sub_cancel_left, List.getElem?_append_left (by rw [List.length_map]; exact hj), List.getElem?_map, List.getElem?_eq_getElem hj, List.getD_eq_getElem?_getD, List.getElem?_eq_getElem hj]
  rfl
theorem saveOf_len (r : List Nat) (past : Nat) (all : List Nat) (hr : r.length = 8) : (saveOf r past all).length = 104 := by
  unfold saveOf
  rw [List.length_append, List.length_append, List.length_append, bytesR_len, regOf_len hr, tailOf_len, List.length_replicate, eight_len]
  omega
set_option maxRecDepth 100000 in
set_option maxHeartbeats 1000000 in
theorem save_any (g past : Nat) (r all : List Nat) (w : World) (hr : r.length = 8) (hra : All 4294967296 r) (hpast : past % 64 = 0) (hmax : past + all.length ≤ 1152921504606846976 + 150000000000000) (hH : HashAt w g r past all) (hall : All 256 all) :
    Calls Tryd.prog 22 #[.pointer (some ⟨g, 0, none⟩)] w fun e w' => ∃ v, e = .returned v ∧ Own w' w.heap.size v (saveOf r past all) ∧ Below w.heap.size w w' := by
  obtain ⟨rest, hB, hrl, hrest, htl⟩ := hH
  obtain ⟨R, hR⟩ : ∃ R, R = regOf r all := ⟨_, rfl⟩
  have hRl : R.length = 8 := by rw [hR]; exact regOf_len hr all
  have hRa : All 4294967296 R := by rw [hR]; exact regOf_all hra all
  obtain ⟨tk, htk⟩ : ∃ tk, tk = past + all.length := ⟨_, rfl⟩
  obtain ⟨T, hT⟩ : ∃ T, T = tailOf all := ⟨_, rfl⟩
  obtain ⟨m, hm⟩ : ∃ m, m = tk % 64 := ⟨_, rfl⟩
  have hm2 : m = all.length % 64 := by rw [hm, htk]; omega
  have hm64 : m < 64 := by rw [hm]; omega
  have hTl : T.length = m := by rw [hT, tailOf_len, hm2]
  rw [← hm2, ← hT] at htl
  rw [← hR, ← htk] at hB
  have hgl := hB.lt
  obtain ⟨S, hS⟩ : ∃ S, S = bytesR R := ⟨_, rfl⟩
  have hSl : S.length = 32 := by rw [hS, bytesR_len, hRl]
  have hbytes : ∀ V : World, Calls Tryd.prog 49 #[.agg (R.map v32).toArray] V fun e w' => e = .returned (.agg (S.map v8).toArray) ∧ Below V.heap.size V w' := fun V => by rw [hS]; exact bytes_any R V hRl hRa
  obtain ⟨E, hE⟩ : ∃ E, E = eight tk := ⟨_, rfl⟩
  have hEl : E.length = 8 := by rw [hE]; exact eight_len tk
  have h8 : ∀ V : World, Calls Tryd.prog 48 #[.int .u64 (tk : Int)] V fun e w' => ∃ v, e = .returned v ∧ Own w' V.heap.size v E ∧ Below V.heap.size V w' := fun V => by rw [hE]; exact eight_any tk V (by omega)
  have hans : saveOf r past all = S ++ (T ++ List.replicate (64 - m) 0) ++ E := by rw [hS, hT, hE, hR, htk, hm2]; rfl
  have htk2 : tk ≤ 1153071504606846976 := by omega
  have hload : ∀ V : World, Below w.heap.size w V → V.cell? ⟨g, 72, none⟩ = some (.int .u64 (tk : Int)) := fun V hb => by rw [hb.cell (p := ⟨g, 72, none⟩) hgl]; exact (hB.cell 72).trans (hcells_72 R rest tk hRl hrl)
  have hsrc : ∀ V : World, Below w.heap.size w V → ∀ j v, (T.map v8)[j]? = some v → V.cell? ((Addr.mk g 8 none).add j) = some v := fun V hb j v hv => by
    rw [Addr.add_mid, hb.cell (p := ⟨g, 8 + j, none⟩) hgl]
    rw [List.getElem?_map] at hv
    obtain ⟨x, hx, rfl⟩ := Option.map_eq_some_iff.1 hv
    have hj := (List.getElem?_eq_some_iff.1 hx).1
    have e := (hB.cell (8 + j)).trans (hcells_rest (tk := tk) hRl j (by rw [hrl]; omega))
    rw [e, ← htl] at *
    rw [List.getElem?_take_of_lt (by omega)] at hx
    rw [List.getD_eq_getElem?_getD, hx]
    rfl
  have hB' : Blk w g 76 ([] ++ R.map v32 ++ (rest.map v8 ++ [Value.int .u64 (tk : Int)])).toArray := by
    have h := hB
    unfold hcells at h
    rw [List.append_assoc] at h
    exact h
  have HB := Lib.hid hB'; have HRL := Lib.hid hRl; have HSL := Lib.hid hSl; have HBY := Lib.hid hbytes; have H8 := Lib.hid h8; have HEL := Lib.hid hEl; have HANS := Lib.hid hans; have HLD := Lib.hid hload; have HSRC := Lib.hid hsrc; have HTL := Lib.hid hTl
  clear hB hB' hRl hRa hSl hbytes h8 hEl hans hload hsrc hTl hR hT hm2 hS hE htk hrl htl hmax hpast
  have c0 := HLD.out w (Below.refl _ _)
  have i0 : (0 : Int) ≤ (tk : Int) := by omega
  have i1 : (tk : Int) ≤ 1153071504606846976 := by omega
  have i2 : (0 : Int) ≤ (tk : Int) % 64 := by omega
  have i5 : (tk : Int) % 64 ≤ 64 := by omega
  have i6 : ((tk : Int) % 64).toNat = m := by omega
  have j0 : Int.tmod (tk : Int) 64 = (tk : Int) % 64 := Int.tmod_eq_emod_of_nonneg i0
  have j2 : (0 : Int) ≤ Int.tmod (tk : Int) 64 := by rw [j0]; exact i2
  have j5 : Int.tmod (tk : Int) 64 ≤ 64 := by rw [j0]; exact i5
  have j6 : (Int.tmod (tk : Int) 64).toNat = m := by rw [j0]; exact i6
  clear j0
  have i7 : decide ((0 : Int) ≤ (tk : Int) % 64) = true := decide_eq_true i2
  have i8 : decide ((tk : Int) % 64 ≤ 64) = true := decide_eq_true i5
  have i3 : (m : Int) ≤ 64 := by omega
  have i4 : (0 : Int) ≤ (m : Int) := by omega
  clear htk2
  go_enter Tryd.func22, Tryd.ntmps22
  go_wp2_with (first
    | (refine wpl_load rfl 73 _ rfl g 0 rfl 76 [] (R.map v32) _ HB.out rfl _ Tryd.underlying73 rfl (by rw [List.length_map, HRL.out]; kernel_rfl) ?_)
    | (go_at_call 49; (with_reducible refine (HBY.out _).mono ?_); rintro e w1 ⟨rfl, hb1⟩)
    | (refine wpl_store rfl 24 _ _ rfl w1.heap.size 0 rfl 24 [] ((List.replicate 32 0).map v8) [] (S.map v8) rfl (by rw [List.nil_append, List.append_nil]; exact Blk.new w1 24 (c8 (List.replicate 32 0))) rfl (by rw [List.length_map, HSL.out]; rfl) (by rw [List.length_map, HSL.out]; kernel_rfl) (v8_one S) ?_
       intro w2 B2 O2
       have hb2 : Below w.heap.size w w2 := O2.below (hb1.alloc hb1.size _) hb1.size
       have C2 : C8 w2 (some ⟨w1.heap.size, 0, none⟩) S.length S := by rw [HSL.out]; exact C8.of_Blk B2 32 HSL.out.symm (by omega)
       clear O2 B2 hb1)
    | (at_builtin; refine wpl_append rfl _ _ _ rfl info_byte Tryd.underlying22 w.heap.size (.slice (some ⟨w2.heap.size, 0, none⟩) 0 0) [] rfl (Own.nil_alloc w2 _ _ rfl hb2.size) _ 32 32 S rfl HSL.out.symm (C2.below ((Below.refl _ _).alloc (Nat.le_refl _) _)) (by rw [HSL.out]; simp) (by have := hb2.size; simp; omega) ?_
       intro v3 w3 O3 G3 P3
       rw [List.nil_append] at O3
       have hb3 : Below w.heap.size w w3 := (hb2.alloc hb2.size _).grown G3 (by have := hb2.size; simp; omega) (by have := hb2.size; simp [Value.ownBlock]; omega)
       have hs3 := hb3.size
       clear G3 P3 C2 hb2))
  obtain ⟨w4, hw4⟩ : ∃ W, W = w3.alloc (.cells (c8 (List.replicate 64 0)) 74) := ⟨_, rfl⟩
  change Code.wp _ _ _ _ (w3.alloc (.cells (c8 (List.replicate 64 0)) 74))
  rw [← hw4]
  have hb4 : Below w.heap.size w w4 := by rw [hw4]; exact hb3.alloc hs3 _
  have c4 := HLD.out _ hb4
  have B4 : Blk w4 w3.heap.size 74 (c8 (List.replicate 64 0)) := by rw [hw4]; exact Blk.new w3 74 _
  have O4 : Own w4 w.heap.size v3 S := by rw [hw4]; exact O3.alloc _
  clear hw4 hb3 O3
  go_still_tail 10, (by kernel_rfl)
  change wpList _ _ _ _ _ w4.drew
  have B5 : Blk w4.drew w3.heap.size 74 ([] ++ (List.replicate m 0).map v8 ++ (List.replicate (64 - m) 0).map v8).toArray := by
    have h := B4.drew
    rwa [show c8 (List.replicate 64 0) = ([] ++ (List.replicate m 0).map v8 ++ (List.replicate (64 - m) 0).map v8).toArray by rw [List.nil_append, ← List.map_append, List.replicate_append_replicate, show m + (64 - m) = 64 by omega]; rfl] at h
  have hb5 : Below w.heap.size w w4.drew := ⟨hb4.os, hb4.tape, hb4.output, hb4.size, hb4.block⟩
  have hs5 := HSRC.out _ hb5
  have O5 : Own w4.drew w.heap.size v3 S := O4.below ⟨rfl, rfl, rfl, Nat.le_refl _, fun _ _ => rfl⟩
  have h34 : w3.heap.size < w4.drew.heap.size := B5.lt
  have gne : g ≠ w3.heap.size := by omega
  have HS5 := Lib.hid hs5; have HB5 := Lib.hid B5
  clear B4 O4 c4 hb4 hs5 B5
  go_wp2_with (first
    | (refine wpl_copy_n rfl _ _ _ _ rfl 5 Tryd.underlying22 (by kernel_rfl) _ _ _ _ (tk % 64) _ rfl rfl w3.heap.size 0 74 [] ((List.replicate m 0).map v8) ((List.replicate (64 - m) 0).map v8) (T.map v8) HB5.out rfl (by rw [List.length_map, List.length_map, HTL.out, List.length_replicate]) (by rw [List.length_map, HTL.out, hm]; exact (Nat.min_eq_left (Nat.le_of_lt (Nat.mod_lt _ (by decide)))).symm) (fun _ => ⟨rfl, _, rfl, HS5.out⟩) (v8_one T) m (by rw [List.length_map, HTL.out]) ?_
       intro w6 B6 O6
       have hb6 : Below w.heap.size w w6 := O6.below hb5 hs3
       have P6 : Own w6 w.heap.size v3 S := O5.only O6 (O5.ne HB5.out (by decide))
       have C6 : C8 w6 (some ⟨w3.heap.size, 0, none⟩) 64 (T ++ List.replicate (64 - m) 0) := by
         refine C8.of_Blk (t := 74) ?_ 64 (by rw [List.length_append, HTL.out, List.length_replicate]; omega) (by decide)
         rw [List.map_append, List.append_nil]
         rw [List.append_assoc] at B6
         exact B6
       have hs6 := hb6.size
       have l6 : 64 = (T ++ List.replicate (64 - m) 0).length := by rw [List.length_append, HTL.out, List.length_replicate]; omega
       have HC6 : Hid (C8 w6 (some ⟨w3.heap.size, 0, none⟩) (T ++ List.replicate (64 - m) 0).length (T ++ List.replicate (64 - m) 0)) := by rw [← l6]; exact C6
       have L6 := Lib.hid l6
       clear B6 O6 O5 hb5 C6 l6)
    | (at_builtin; refine wpl_append rfl _ _ _ rfl info_byte Tryd.underlying22 w.heap.size _ S rfl P6 _ 64 64 (T ++ List.replicate (64 - m) 0) rfl L6.out HC6.out (by rw [← L6.out, HSL.out]; simp) hs6 ?_
       intro v7 w7 O7 G7 P7
       have hb7 := hb6.grown G7 hs6 (fun k hk => (P6.lt k hk).1)
       have c7 := HLD.out _ hb7
       have hs7 := hb7.size
       clear G7 P7 P6 hb6 HC6)
    | (go_at_call 48; (with_reducible refine (H8.out _).mono ?_); rintro e w8 ⟨v8_, rfl, O8, hb8⟩
       have hb8' := hb7.trans (hb8.mono hs7)
       have P8 := O7.below hb8
       obtain ⟨A8, n8, c8_, hn8, hv8, hC8⟩ := O8.arg_
       subst hv8
       have HN8 := Lib.hid hn8
       clear hb8 O8 O7 hb7 c7 hn8)
    | (at_builtin; refine wpl_append rfl _ _ _ rfl info_byte Tryd.underlying22 w.heap.size _ (S ++ (T ++ List.replicate (64 - m) 0)) rfl P8 _ _ _ E rfl HN8.out hC8 (by rw [List.length_append, ← L6.out, HSL.out, HEL.out]; simp) hb8'.size ?_
       intro v9 w9 O9 G9 P9
       have hb9 := hb8'.grown G9 hb8'.size (fun k hk => (P8.lt k hk).1)
       rw [← HANS.out] at O9
       clear G9 P9 P8 hC8 hb8'))
  go_ret
  exact ⟨_, rfl, O9, hb9⟩
end Go.Proofs.YtfedlgcpgfofjaaDoor.Sha
