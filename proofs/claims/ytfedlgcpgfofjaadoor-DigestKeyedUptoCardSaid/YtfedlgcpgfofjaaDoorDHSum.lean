/-
  (*Hash).Sum, Sum: what the calls do, walked.
-/
import Derived.Test.YtfedlgcpgfofjaaDoorDSums
namespace Go.Proofs.YtfedlgcpgfofjaaDoor.Sha
open Go.RowKit Go.Proofs.YtfedlgcpgfofjaaDoorW.PrintWords
set_option linter.unusedVariables false
theorem hcells_len (R rest : List Nat) (tk : Nat) (hR : R.length = 8) (hr : rest.length = 64) : (hcells R rest tk).length = 73 := by simp [hcells, hR, hr]
theorem hcells_one (R rest : List Nat) (tk : Nat) : ∀ v ∈ hcells R rest tk, v.oneCell' = true := by
  intro v hv
  unfold hcells at hv
  rcases List.mem_append.1 hv with h | h
  · rcases List.mem_append.1 h with h | h
    · exact one32 _ v h
    · exact v8_one _ v h
  · rw [List.mem_singleton.1 h]; rfl
/-- What is laid behind the bytes. -/
def padTail (all : List Nat) (n : Nat) : List Nat := [128] ++ List.replicate (zeros all.length) 0 ++ eight n
theorem padTail_app (all : List Nat) (n : Nat) : all ++ padTail all n = padOf all n := by simp [padTail, padOf]
theorem HashAt.keep {w w' : World} {g : Nat} {r all : List Nat} {past : Nat} (h : HashAt w g r past all) (hk : w'.heap[g]? = w.heap[g]?) : HashAt w' g r past all := by
  obtain ⟨rest, hB, h1, h2, h3⟩ := h
  exact ⟨rest, hk.trans hB, h1, h2, h3⟩
theorem HashAt.lt {w : World} {g : Nat} {r all : List Nat} {past : Nat} (h : HashAt w g r past all) : g < w.heap.size := by
  obtain ⟨rest, hB, _⟩ := h
  exact hB.lt
set_option maxRecDepth 100000 in
set_option maxHeartbeats 800000 in
theorem hsum_any (g past : Nat) (r all : List Nat) (w : World) (hr : r.length = 8) (hra : All 4294967296 r) (hpast : past % 64 = 0) (hmax : past + all.length ≤ 1152921504606846976 + 100000000000000)
    (hH : HashAt w g r past all) (hall : All 256 all) (ht : Tab1 w) (h1 : 1 < w.heap.size) :
    Calls Tryd.prog 19 #[.pointer (some ⟨g, 0, none⟩)] w fun e w' => e = .returned (.agg ((total r past all).map v8).toArray) ∧ Below w.heap.size w w' := by
  obtain ⟨rest, hB, hrl, hrest, htl⟩ := hH
  obtain ⟨R, hR⟩ : ∃ R, R = regOf r all := ⟨_, rfl⟩
  have hRl : R.length = 8 := by rw [hR]; exact regOf_len hr all
  obtain ⟨tk, htk⟩ : ∃ tk, tk = past + all.length := ⟨_, rfl⟩
  rw [← hR, ← htk] at hB
  obtain ⟨Z, hZ⟩ : ∃ Z, Z = zeros all.length := ⟨_, rfl⟩
  have hZ1 : Z = (119 - tk % 64) % 64 := by rw [hZ, htk]; unfold zeros; omega
  have hgl := hB.lt
  have HH : Hid (HashAt w g r past all) := ⟨rest, by rw [← hR, ← htk]; exact hB, hrl, hrest, htl⟩
  have c72 : w.cell? ⟨g, 72, none⟩ = some (.int .u64 (tk : Int)) := (hB.cell 72).trans (hcells_72 R rest tk hRl hrl)
  have HRL := Lib.hid hRl; have HRR := Lib.hid hR; have HTK := Lib.hid htk; have HZ := Lib.hid hZ; have HB := Lib.hid hB; have HRS := Lib.hid hrl; have HP := Lib.hid hpast; have HR := Lib.hid hr; have HTL := Lib.hid htl; have HT := Lib.hid ht
  have htk2 : tk ≤ 1152921504606846976 + 100000000000000 := by omega
  clear hRl hR htk hZ hB hrl hpast hr htl ht hmax
  have i0 : (0 : Int) ≤ (tk : Int) := by omega
  have i1 : (tk : Int) ≤ 1153021504606846976 := by omega
  have hC0 : Hid (Blk ((w.alloc (.cells (c8 (List.replicate 32 0)) 24))) g 76 ([] ++ hcells R rest tk ++ []).toArray) := by
    show Blk _ _ _ _
    rw [List.nil_append, List.append_nil]
    exact HB.out.alloc _
  go_enter Tryd.func19, Tryd.ntmps19
  go_wp2_with (first
    | (refine wpl_load rfl 76 _ rfl g 0 rfl 76 [] (hcells R rest tk) [] hC0.out rfl _ Tryd.underlying76 rfl (by rw [hcells_len R rest tk HRL.out HRS.out]; kernel_rfl) ?_)
    | (refine wpl_store rfl 76 _ _ rfl (w.heap.size + 1) 0 rfl 76 [] (hcells (List.replicate 8 0) (List.replicate 64 0) 0) [] (hcells R rest tk) rfl
        (by rw [List.nil_append, List.append_nil]; exact Blk.new_ (w.alloc _) 76 (hcells (List.replicate 8 0) (List.replicate 64 0) 0).toArray _ (by simp)) rfl (by rw [hcells_len R rest tk HRL.out HRS.out]; rfl) (by rw [hcells_len R rest tk HRL.out HRS.out]; kernel_rfl) (hcells_one R rest tk) ?_
       intro w2 B2 O2))
  have hsz2 : w2.heap.size = w.heap.size + 1 + 1 := by rw [O2.size]; simp
  have hb2 : Below w.heap.size w w2 := O2.below (((Below.refl _ _).alloc (Nat.le_refl _) _).alloc (by simp) _) (by omega)
  have BZ2 : Blk w2 w.heap.size 24 (c8 (List.replicate 32 0)) := (((Blk.new w 24 (c8 (List.replicate 32 0))).alloc _).only O2 (by omega))
  have BC2 : Blk w2 (w.heap.size + 1) 76 (hcells R rest tk).toArray := by
    have h := B2
    rw [List.nil_append, List.append_nil] at h
    exact h
  have O128 : Own (w2.alloc (.cells #[.int .u8 128] 5)) w.heap.size (.slice (some ⟨w2.heap.size, 0, none⟩) 1 1) [128] := Own.of_Blk (p := [128]) (Blk.new w2 5 (c8 [128])) (by omega) (by decide)
  have hb3 := hb2.alloc hb2.size (.cells #[.int .u8 128] 5)
  have BZ3 := BZ2.alloc (.cells #[.int .u8 128] 5)
  have BC3 := BC2.alloc (.cells #[.int .u8 128] 5)
  clear B2 BZ2 BC2 O2 hb2 hsz2
  have hlen : ∀ z, ([128] ++ List.replicate z 0 : List Nat).length = 1 + z := fun z => by simp; omega
  have HLEN := Lib.hid hlen
  clear hlen
  go_loopw [4] (fun v wr => ∃ z : Nat, z ≤ Z ∧ Own wr w.heap.size v ([128] ++ List.replicate z 0) ∧ Below w.heap.size w wr ∧ Blk wr w.heap.size 24 (c8 (List.replicate 32 0)) ∧ Blk wr (w.heap.size + 1) 76 (hcells R rest tk).toArray) (fun v _ => 70 - slen v)
  case atStart => exact ⟨0, by omega, O128, hb3, BZ3, BC3⟩
  case round =>
    clear O128 hb3 BZ3 BC3
    obtain ⟨z, hz, O, hbel, BZ, BC⟩ := hrel
    obtain ⟨A4, n4, c4, hn4, rfl, hC4⟩ := O.arg_
    rw [HLEN.out] at hn4 hC4
    have hn4' : n4 = 1 + z := hn4
    have j0 : (0 : Int) ≤ (n4 : Int) := by omega
    have j1 : (n4 : Int) ≤ 100 := by omega
    have d72 : wr.cell? ⟨w.heap.size + 1, 72, none⟩ = some (.int .u64 (tk : Int)) := (BC.cell 72).trans (hcells_72 R rest tk HRL.out HRS.out)
    have hs := hbel.size
    by_cases hlt : z < Z
    · have t1 : (((tk : Int) + (n4 : Int)) % 64 != 56) = true := by
        have : ¬ (((tk : Int) + (n4 : Int)) % 64 = 56) := by omega
        simpa using this
      have HN := Lib.hid hn4'
      have hO := Lib.hid O
      clear hn4 hn4'
      go_wp2_with (at_builtin; refine wpl_append rfl _ _ _ rfl info_byte Tryd.underlying22 w.heap.size _ _ rfl (hO.out.alloc _) _ _ _ [0] rfl rfl (C8.one_ _ 0 0 rfl _ rfl) (by rw [HLEN.out]; simp; omega) (by simp; omega) ?_; intro v3 w3 O3 G3 _)
      go_roundw
      case rel =>
        refine ⟨z + 1, by omega, ?_, (hbel.alloc hs _).grown G3 (by simp; omega) (fun k hk => (hO.out.lt k hk).1), (BZ.alloc _).grown G3 (hO.out.ne BZ (by decide)), (BC.alloc _).grown G3 (hO.out.ne BC (by decide))⟩
        rw [List.replicate_succ', ← List.append_assoc]
        exact O3
      case measure =>
        obtain ⟨A5, n5, c5, hn5, rfl, _⟩ := O3.arg_
        have h1 := HN.out
        have h2 := HLEN.out z
        simp only [slen_slice]
        rw [List.length_append, h2] at hn5
        simp at hn5
        omega
    · have t1 : (((tk : Int) + (n4 : Int)) % 64 != 56) = false := by
        have : (((tk : Int) + (n4 : Int)) % 64 = 56) := by omega
        simpa using this
      have hzZ : z = Z := by omega
      obtain ⟨q4, hq4⟩ : ∃ q4, q4 = ([128] ++ List.replicate z 0 : List Nat) := ⟨_, rfl⟩
      rw [← hq4] at O
      have HN : Hid (n4 = q4.length) := by rw [hq4, HLEN.out]; exact hn4
      obtain ⟨N, hN⟩ : ∃ N, N = 8 * tk := ⟨_, rfl⟩
      obtain ⟨E, hE⟩ : ∃ E, E = eight N := ⟨_, rfl⟩
      have hEl : E.length = 8 := by rw [hE]; exact eight_len N
      have hEa : All 256 E := by rw [hE]; exact eight_all N
      have h8 : ∀ W : World, Calls Tryd.prog 48 #[.int .u64 ((tk : Int) * 8)] W fun e w' => ∃ v, e = .returned v ∧ Own w' W.heap.size v E ∧ Below W.heap.size W w' := fun W => by
        have h := eight_any N W (by omega)
        rw [← hE] at h
        rw [show (N : Int) = (tk : Int) * 8 by omega] at h
        exact h
      have HQ : Hid (padTail all N = q4 ++ E) := by
        show padTail all N = _
        rw [hq4, hE, hzZ, HZ.out]
        rfl
      have hqa : All 256 (padTail all N) := ((All.one (by decide)).app (All.rep (by decide) _)).app (eight_all N)
      have hql : (padTail all N).length = n4 + 8 := by rw [HQ.out, List.length_append, hEl, HN.out]
      obtain ⟨q, hq⟩ : ∃ q, q = padTail all N := ⟨_, rfl⟩
      rw [← hq] at hqa hql HQ
      have HQL := Lib.hid hql; have HQE := Lib.hid hq; have H8 := Lib.hid h8; have HEl := Lib.hid hEl; have HNN := Lib.hid hN
      have hO := Lib.hid O
      have n4b : n4 ≤ 100 := by omega
      have e72 : wr.cell? ⟨g, 72, none⟩ = some (.int .u64 (tk : Int)) := (hbel.cell (p := ⟨g, 72, none⟩) hgl).trans c72
      clear hn4 hn4' hC4 hzZ hq4 hN hE hEl h8 hql hq
      go_wp2_with (first
        | (go_at_call 48; (with_reducible refine (H8.out _).mono ?_); rintro e w5 ⟨v5, rfl, O5, hb5⟩; obtain ⟨A5, n5, c5, hn5, rfl, hC5⟩ := O5.arg_; have HN5 := Lib.hid hn5; clear hn5)
        | (at_builtin; refine wpl_append rfl _ _ _ rfl info_byte Tryd.underlying22 w.heap.size _ _ rfl (hO.out.below hb5) _ _ _ E rfl HN5.out hC5 (by rw [← HN.out, HEl.out]; omega) (by have := hb5.size; omega) ?_; intro v6 w6 O6 G6 _
           have BC6 := (BC.below hb5 BC.lt).grown G6 (hO.out.ne BC (by decide)); have BZ6 := (BZ.below hb5 BZ.lt).grown G6 (hO.out.ne BZ (by decide))
           have hb6 := (hbel.trans (hb5.mono hs)).grown G6 (by have := hb5.size; omega) (fun k hk => (hO.out.lt k hk).1)
           have hne6 := O6.ne BC6 (by decide)
           rw [← HQ.out] at O6; obtain ⟨A6, c6, hv6, hle6, hC6⟩ := O6.arg; subst hv6)
        | (go_at_call 18
           refine ((write_c (w.heap.size + 1) past r all q A6 q.length c6 _ HR.out hra HP.out (by rw [HQL.out]; have := HTK.out; omega) ⟨rest, by rw [← HRR.out, ← HTK.out]; exact BC6, HRS.out, hrest, HTL.out⟩ hall rfl hle6 hqa hC6
              (fun _ b o e h => by subst e; subst h; exact hne6 rfl) (HT.out.below hb6 h1) (by have := hb6.size; omega) (by omega)).mono ?_); rintro e w7 ⟨rfl, H7, G7⟩
           obtain ⟨rest7, B7, hrl7, hrest7, htl7⟩ := H7
           have BZ7 := BZ6.grown G7 (by simp)
           have hb7 : Below w.heap.size w w7 := hb6.grown G7 hb6.size (fun k hk => by injection hk; omega)
           clear htl7
           obtain ⟨R7, hR7⟩ : ∃ R7, R7 = regOf r (all ++ q) := ⟨_, rfl⟩
           rw [← hR7] at B7
           have HR7l : Hid (R7.length = 8) := by rw [hR7]; exact regOf_len HR.out _
           have HR7a : All 4294967296 R7 := by rw [hR7]; exact regOf_all hra _
           have HR7 := Lib.hid hR7
           have HB7 : Hid (Blk w7 (w.heap.size + 1) 76 ([] ++ R7.map v32 ++ (rest7.map v8 ++ [Value.int .u64 ((past + (all ++ q).length : Nat) : Int)])).toArray) := by
             have h := B7
             unfold hcells at h
             rw [List.append_assoc] at h
             exact h
           clear hR7 B7)
        | (refine wpl_load rfl 73 _ rfl (w.heap.size + 1) 0 rfl 76 [] (R7.map v32) _ HB7.out rfl _ Tryd.underlying73 rfl (by rw [List.length_map, HR7l.out]; kernel_rfl) ?_)
        | (go_at_call 49; (with_reducible refine (bytes_any R7 _ HR7l.out HR7a).mono ?_); rintro e w8 ⟨rfl, hb8⟩
           have BZ8 : Blk w8 w.heap.size 24 ([] ++ (List.replicate 32 0).map v8 ++ []).toArray := BZ7.below hb8 BZ7.lt
           have hb8' := hb7.trans (hb8.mono hb7.size))
        | (refine wpl_store rfl 24 _ _ rfl w.heap.size 0 rfl 24 [] ((List.replicate 32 0).map v8) [] ((bytesR R7).map v8) rfl BZ8 rfl (by rw [List.length_map, bytesR_len, HR7l.out]; rfl) (by rw [List.length_map, bytesR_len, HR7l.out]; kernel_rfl) (v8_one _) ?_; intro w9 B9 O9))
      have e : total r past all = bytesR R7 := by
        rw [HR7.out, HQE.out, HNN.out, HTK.out, padTail_app]
        rfl
      rw [e]
      exact bodyPost_ret (results_cell_row rfl _ _ w.heap.size 24 ((bytesR R7).map v8).toArray (0, 0) _ rfl (by have h9 := B9; rw [List.nil_append, List.append_nil] at h9; exact h9) Tryd.underlying24 rfl (by rw [show ((bytesR R7).map v8).toArray.size = 32 by simp [bytesR_len, HR7l.out]]; kernel_rfl)) rfl ⟨rfl, O9.below hb8' (Nat.le_refl _)⟩
/-- Sum: of bytes. -/
theorem hash_new (w : World) : HashAt (w.alloc (.cells (hcells first (List.replicate 64 0) 0).toArray 76)) w.heap.size first 0 [] :=
  ⟨List.replicate 64 0, Blk.new w 76 _, rfl, All.rep (by decide) 64, rfl⟩
set_option maxRecDepth 100000 in
set_option maxHeartbeats 800000 in
theorem sum_any (p : List Nat) (A : Option Addr) (c : Nat) (w : World) (hp : p.length ≤ 100000000000000) (hpc : p.length ≤ c) (hpa : All 256 p) (hC : C8 w A p.length p) (ht : Tab1 w) (hf : TabF w) (h1 : 1 < w.heap.size) :
    Calls Tryd.prog 14 #[.slice A p.length c] w fun e w' => e = .returned (.agg ((sumOf p).map v8).toArray) ∧ Below w.heap.size w w' := by
  obtain ⟨n, hn⟩ : ∃ n, n = p.length := ⟨_, rfl⟩
  rw [← hn] at hp hpc
  rw [← hn]
  have HN := Lib.hid hn; have HC := Lib.hid hC; have HT := Lib.hid ht; have HF := Lib.hid hf
  clear hn hC ht hf
  obtain ⟨D, hD⟩ : ∃ D, D = sumOf p := ⟨_, rfl⟩
  have hDl : D.length = 32 := by rw [hD]; exact sumOf_len p
  rw [← hD]
  have HD := Lib.hid hD; have HDl := Lib.hid hDl
  clear hD hDl
  go_enter Tryd.func14, Tryd.ntmps14
  go_wp2_with (first
    | (go_at_call 25; (with_reducible refine (new_any _ (HF.out.below ((Below.refl w.heap.size w).alloc (Nat.le_refl _) _) (by omega))).mono ?_); rintro e w1 ⟨rfl, hw1⟩
       have H1 : HashAt w1 (w.heap.size + 1) first 0 [] := by
         rw [← hw1]; exact ⟨List.replicate 64 0, Blk.new_ (w.alloc _) 76 _ _ (by simp), rfl, All.rep (by decide) 64, rfl⟩
       have hb1 : Below w.heap.size w w1 := by rw [← hw1]; exact ((Below.refl w.heap.size w).alloc (Nat.le_refl _) _).alloc (by simp) _
       have BZ1 : Blk w1 w.heap.size 24 (c8 (List.replicate 32 0)) := by rw [← hw1]; exact (Blk.new w 24 _).alloc _
       clear hw1)
    | (go_at_call 18
       refine ((write_c (w.heap.size + 1) 0 first [] p A n c _ first_len first_all rfl (by rw [← HN.out]; simp; omega) H1 All.nil HN.out hpc hpa (HC.out.below hb1)
         (fun h0 b o e h => by obtain ⟨b', o', e', hlt', _⟩ := HC.out.at_ h0; rw [e'] at e; injection e with e; injection e with e; omega) (HT.out.below hb1 h1) (by have := hb1.size; omega) (by omega)).mono ?_); rintro e w2 ⟨rfl, H2, G2⟩
       rw [List.nil_append] at H2
       have BZ2 := BZ1.grown G2 (by simp)
       have hb2 : Below w.heap.size w w2 := hb1.grown G2 hb1.size (fun k hk => by injection hk; omega))
    | (go_at_call 19
       refine ((hsum_any (w.heap.size + 1) 0 first p _ first_len first_all rfl (by rw [← HN.out]; omega) H2 hpa (HT.out.below hb2 h1) (by have := hb2.size; omega)).mono ?_); rintro e w3 ⟨he3, hb3⟩
       rw [show total first 0 p = D from HD.out.symm] at he3
       subst he3
       have BZ3 : Blk w3 w.heap.size 24 ([] ++ (List.replicate 32 0).map v8 ++ []).toArray := BZ2.below hb3 BZ2.lt
       have hb3' := hb2.trans (hb3.mono hb2.size))
    | (refine wpl_store rfl 24 _ _ rfl w.heap.size 0 rfl 24 [] ((List.replicate 32 0).map v8) [] (D.map v8) rfl BZ3 rfl (by rw [List.length_map, HDl.out]; rfl) (by rw [List.length_map, HDl.out]; kernel_rfl) (v8_one D) ?_; intro w9 B9 O9))
  exact bodyPost_ret (results_cell_row rfl _ _ w.heap.size 24 (D.map v8).toArray (0, 0) _ rfl (by have h9 := B9; rw [List.nil_append, List.append_nil] at h9; exact h9) Tryd.underlying24 rfl (by rw [show (D.map v8).toArray.size = 32 by simp [HDl.out]]; kernel_rfl)) rfl ⟨rfl, O9.below hb3' (Nat.le_refl _)⟩
end Go.Proofs.YtfedlgcpgfofjaaDoor.Sha
