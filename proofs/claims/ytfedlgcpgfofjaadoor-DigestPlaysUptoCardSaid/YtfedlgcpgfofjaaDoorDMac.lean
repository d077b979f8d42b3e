/-
  Joined: what the call does, walked; rows of rows of bytes.
  Mac: what the call does, walked.
-/
import Derived.Test.YtfedlgcpgfofjaaDoorDBase3
import Derived.Test.YtfedlgcpgfofjaaDoorDBase2
import Derived.StillTailTactics
namespace Go.Proofs.YtfedlgcpgfofjaaDoor.Sha
open Go.RowKit Go.Proofs.YtfedlgcpgfofjaaDoorW.PrintWords
set_option linter.unusedVariables false
/-- A slice of slices of bytes. -/
def CP (w : World) (A : Option Addr) (n : Nat) (ps : List (List Nat)) : Prop := Kd.C (Kd.slice 5 (Kd.int .u8)) w A n (ps.map toI)
theorem CP.below {w w' : World} {A : Option Addr} {n : Nat} {ps : List (List Nat)} (h : CP w A n ps) (hb : Below w.heap.size w w') : CP w' A n ps := Kd.C_below h hb
theorem CP.len {w : World} {A : Option Addr} {n : Nat} {ps : List (List Nat)} (h : CP w A n ps) : ps.length = n := by
  have := h.1
  rwa [List.length_map] at this
theorem CP.at_ {w : World} {A : Option Addr} {n : Nat} {ps : List (List Nat)} (h : CP w A n ps) (i : Nat) (hi : i < n) :
    ∃ ad p Aj cj, A = some ad ∧ ps[i]? = some p ∧ w.cell? (ad.add i) = some (.slice Aj p.length cj) ∧ p.length ≤ cj ∧ C8 w Aj p.length p := by
  obtain ⟨ad, cs, e, hl, ⟨Aj, cj, hcs, hle, hC⟩, hcell⟩ := Kd.C_get h [] (i : Int) (by omega) (by omega)
  have hi' : i < ps.length := by rw [h.len]; exact hi
  have hp : ps[i]? = some ps[i] := List.getElem?_eq_getElem hi'
  have hg : (ps.map toI).getD (i : Int).toNat [] = toI ps[i] := by
    simp [List.getD, hi']
  rw [hg, toI_len] at hcs hle hC
  subst hcs
  have := hcell 0 _ rfl
  refine ⟨ad, _, Aj, cj, e, hp, ?_, hle, hC⟩
  rw [show (i : Int).toNat * (Kd.slice 5 (Kd.int IntKind.u8)).sz + 0 = i by show (i : Int).toNat * 1 + 0 = i; omega] at this
  exact this
/-- The parts, each behind its size. -/
def joinOf (ps : List (List Nat)) : List Nat := ps.flatMap fun p => eight p.length ++ p
theorem joinOf_app (ps qs : List (List Nat)) : joinOf (ps ++ qs) = joinOf ps ++ joinOf qs := by simp [joinOf]
theorem joinOf_take {ps : List (List Nat)} {k : Nat} {p : List Nat} (h : ps[k]? = some p) : joinOf (ps.take (k + 1)) = joinOf (ps.take k) ++ eight p.length ++ p := by
  rw [List.take_add_one, h, joinOf_app, List.append_assoc]
  simp [joinOf]
theorem joinOf_le {ps : List (List Nat)} {k : Nat} {p : List Nat} (h : ps[k]? = some p) : (joinOf (ps.take k)).length + 8 + p.length ≤ (joinOf ps).length := by
  have e : joinOf ps = joinOf (ps.take (k + 1)) ++ joinOf (ps.drop (k + 1)) := by rw [← joinOf_app, List.take_append_drop]
  rw [e, joinOf_take h]
  simp [eight_len]
  omega
theorem joinOf_all {ps : List (List Nat)} (h : ∀ p ∈ ps, All 256 p) : All 256 (joinOf ps) := by
  intro x hx
  obtain ⟨p, hp, hx⟩ := List.mem_flatMap.1 hx
  rcases List.mem_append.1 hx with hx | hx
  · exact eight_all _ x hx
  · exact h p hp x hx
set_option maxRecDepth 100000 in
set_option maxHeartbeats 800000 in
theorem joined_any (ps : List (List Nat)) (A : Option Addr) (n c : Nat) (w : World) (hn : n = ps.length) (hmax : (joinOf ps).length ≤ 150000000000000) (hpa : ∀ p ∈ ps, All 256 p) (hC : CP w A n ps) (ht : Tab1 w) (hf : TabF w) (h1 : 1 < w.heap.size) :
    Calls Tryd.prog 24 #[.slice A n c] w fun e w' => e = .returned (.agg ((sumOf (joinOf ps)).map v8).toArray) ∧ Below w.heap.size w w' := by
  have hn9 : n ≤ 9223372036854775807 := hC.2.1
  have HN := Lib.hid hn; have HC := Lib.hid hC; have HT := Lib.hid ht; have HF := Lib.hid hf; have HM := Lib.hid hmax; have HA := Lib.hid hpa
  clear hn hC ht hf hmax hpa
  obtain ⟨D, hD⟩ : ∃ D, D = sumOf (joinOf ps) := ⟨_, rfl⟩
  have hDl : D.length = 32 := by rw [hD]; exact sumOf_len _
  rw [← hD]
  have HD := Lib.hid hD; have HDl := Lib.hid hDl
  clear hD hDl
  go_enter Tryd.func24, Tryd.ntmps24
  go_wp2_with (first
    | (go_at_call 25; (with_reducible refine (new_any _ (HF.out.below ((Below.refl w.heap.size w).alloc (Nat.le_refl _) _) (by omega))).mono ?_); rintro e w1 ⟨rfl, hw1⟩
       have H1 : HashAt w1 (w.heap.size + 1) first 0 [] := by
         rw [← hw1]; exact ⟨List.replicate 64 0, Blk.new_ (w.alloc _) 76 _ _ (by simp), rfl, All.rep (by decide) 64, rfl⟩
       have hb1 : Below w.heap.size w w1 := by rw [← hw1]; exact ((Below.refl w.heap.size w).alloc (Nat.le_refl _) _).alloc (by simp) _
       have BZ1 : Blk w1 w.heap.size 24 (c8 (List.replicate 32 0)) := by rw [← hw1]; exact (Blk.new w 24 _).alloc _
       clear hw1))
  go_loopw [9] (fun v wr => ∃ k : Nat, k ≤ n ∧ v = .int .i64 (k : Int) ∧ HashAt wr (w.heap.size + 1) first 0 (joinOf (ps.take k)) ∧ Below w.heap.size w wr ∧ Blk wr w.heap.size 24 (c8 (List.replicate 32 0))) (fun v _ => n - (intOf v).toNat)
  case atStart => exact ⟨0, by omega, rfl, H1, hb1, BZ1⟩
  case round =>
    clear H1 hb1 BZ1
    obtain ⟨k, hk, rfl, H, hb, BZ⟩ := hrel
    by_cases hlt : k < n
    · obtain ⟨ad, p, Aj, cj, hA, hp, hcell, hle, hCj⟩ := HC.out.at_ k hlt
      subst hA
      have hpl := joinOf_le hp
      have hmax := HM.out
      have hpa : All 256 p := HA.out p (List.mem_of_getElem? hp)
      have hall : All 256 (joinOf (ps.take k)) := joinOf_all fun q hq => HA.out q (List.mem_of_mem_take hq)
      have hnext := joinOf_take hp
      obtain ⟨J, hJ⟩ : ∃ J, J = joinOf (ps.take k) := ⟨_, rfl⟩
      rw [← hJ] at H hpl hall hnext
      obtain ⟨pl, hpl0⟩ : ∃ pl, pl = p.length := ⟨_, rfl⟩
      obtain ⟨jl, hjl⟩ : ∃ jl, jl = J.length := ⟨_, rfl⟩
      rw [← hpl0] at hcell hle hnext hpl
      rw [← hjl] at hpl
      have plm : pl ≤ 150000000000000 := by omega
      have jlm : jl + 8 + pl ≤ 150000000000000 := by omega
      have hCj' : C8 w Aj p.length p := hCj
      have h8 : ∀ W : World, Calls Tryd.prog 48 #[.int .u64 (pl : Int)] W fun e w' => ∃ v, e = .returned v ∧ Own w' W.heap.size v (eight pl) ∧ Below W.heap.size W w' := fun W => eight_any pl W (by omega)
      obtain ⟨E, hE⟩ : ∃ E, E = eight pl := ⟨_, rfl⟩
      have hEl : E.length = 8 := by rw [hE]; exact eight_len _
      have hEa : All 256 E := by rw [hE]; exact eight_all _
      rw [← hE] at h8 hnext
      have H8 := Lib.hid h8; have HE := Lib.hid hEl; have HCj := Lib.hid hCj'; have HP := Lib.hid hpl0; have HJ := Lib.hid hjl; have HNX := Lib.hid hnext
      have c0 : wr.cell? (ad.add k) = some (.slice Aj pl cj) := (hb.cell (World.block_lt_of_cell? w _ hcell)).trans hcell
      clear hCj hCj' h8 hE hEl hpl hp hpl0 hjl hmax hcell hJ hnext
      go_wp2_with (first
        | (go_at_call 48; (with_reducible refine (H8.out _).mono ?_); rintro e w5 ⟨v5, rfl, O5, hb5⟩; clear H8; (have hne5 := O5.lt; obtain ⟨A5, c5, rfl, hle5, hC5⟩ := O5.arg; have H5 := H.below hb5; have hb5' := hb.trans (hb5.mono hb.size); have BZ5 := BZ.below hb5 BZ.lt; rw [HE.out]))
        | (go_at_call 18
           refine ((write_c (w.heap.size + 1) 0 first J E A5 8 c5 _ first_len first_all rfl (by rw [← HJ.out, HE.out]; omega) H5 hall HE.out.symm (by rw [← HE.out]; exact hle5) hEa hC5
              (fun _ b o e => by subst e; have := hne5 b rfl; have := H.lt; omega) (HT.out.below hb5' h1) (by have := hb5'.size; omega) (by omega)).mono ?_); rintro e w6 ⟨rfl, H6, G6⟩
           clear H5
           have BZ6 := BZ5.grown G6 (by simp)
           have hb6 : Below w.heap.size w w6 := hb5'.grown G6 hb5'.size (fun k hk => by injection hk; omega))
        | (go_at_call 18
           refine ((write_c (w.heap.size + 1) 0 first (J ++ E) p Aj pl cj _ first_len first_all rfl (by rw [List.length_append, ← HJ.out, HE.out, ← HP.out]; omega) H6 (hall.app hEa) HP.out hle hpa (HCj.out.below hb6)
              (fun h0 b o e => by obtain ⟨b', o', e', hlt', _⟩ := HCj.out.at_ h0; rw [e'] at e; injection e with e; injection e with e; omega) (HT.out.below hb6 h1) (by have := hb6.size; omega) (by omega)).mono ?_); rintro e w7 ⟨rfl, H7, G7⟩
           have BZ7 := BZ6.grown G7 (by simp)
           have hb7 : Below w.heap.size w w7 := hb6.grown G7 hb6.size (fun k hk => by injection hk; omega)))
      go_roundw
      case rel => exact ⟨k + 1, by omega, rfl, by rw [HNX.out]; exact H7, hb7, BZ7⟩
      case measure => simp [intOf]; omega
    · have hkn : k = n := by omega
      have ek : joinOf (ps.take k) = joinOf ps := by rw [hkn, HN.out, List.take_length]
      rw [ek] at H
      obtain ⟨J, hJ⟩ : ∃ J, J = joinOf ps := ⟨_, rfl⟩
      have hJa : All 256 J := by rw [hJ]; exact joinOf_all HA.out
      have hJl : J.length ≤ 150000000000000 := by rw [hJ]; exact HM.out
      have hd : total first 0 J = D := by rw [hJ]; exact HD.out.symm
      rw [← hJ] at H
      have Hd := Lib.hid hd
      have t1 : decide (k < n) = false := decide_eq_false hlt
      clear hJ hd ek hkn
      go_wp2_with (first
        | (go_at_call 19
           refine ((hsum_any (w.heap.size + 1) 0 first J _ first_len first_all rfl (by omega) H hJa (HT.out.below hb h1) (by have := hb.size; omega)).mono ?_); rintro e w3 ⟨he3, hb3⟩
           rw [Hd.out] at he3
           subst he3
           have BZ3 : Blk w3 w.heap.size 24 ([] ++ (List.replicate 32 0).map v8 ++ []).toArray := BZ.below hb3 BZ.lt
           have hb3' := hb.trans (hb3.mono hb.size))
        | (refine wpl_store rfl 24 _ _ rfl w.heap.size 0 rfl 24 [] ((List.replicate 32 0).map v8) [] (D.map v8) rfl BZ3 rfl (by rw [List.length_map, HDl.out]; rfl) (by rw [List.length_map, HDl.out]; kernel_rfl) (v8_one D) ?_; intro w9 B9 O9))
      exact bodyPost_ret (results_cell_row rfl _ _ w.heap.size 24 (D.map v8).toArray (0, 0) _ rfl (by have h9 := B9; rw [List.nil_append, List.append_nil] at h9; exact h9) Tryd.underlying24 rfl (by rw [show (D.map v8).toArray.size = 32 by simp [HDl.out]]; kernel_rfl)) rfl ⟨rfl, O9.below hb3' (Nat.le_refl _)⟩
end Go.Proofs.YtfedlgcpgfofjaaDoor.Sha
namespace Go.Proofs.YtfedlgcpgfofjaaDoor.Sha
open Go.RowKit Go.Proofs.YtfedlgcpgfofjaaDoorW.PrintWords
set_option linter.unusedVariables false
def keyOf (key : List Nat) : List Nat := if 64 < key.length then sumOf key else key
def keyBlk (key : List Nat) : List Nat := keyOf key ++ List.replicate (64 - (keyOf key).length) 0
def macOf (key : List Nat) (ps : List (List Nat)) : List Nat := sumOf ((keyBlk key).map (· ^^^ 92) ++ sumOf ((keyBlk key).map (· ^^^ 54) ++ ps.flatten))
theorem keyOf_len (key : List Nat) : (keyOf key).length ≤ 64 := by
  unfold keyOf
  split
  · rw [sumOf_len]; decide
  · omega
theorem keyBlk_len (key : List Nat) : (keyBlk key).length = 64 := by
  have := keyOf_len key
  simp [keyBlk]
  omega
theorem keyBlk_all {key : List Nat} (h : All 256 key) : All 256 (keyBlk key) := by
  refine All.app ?_ (All.rep (by decide) _)
  unfold keyOf
  split
  · exact sumOf_all key
  · exact h
theorem xor_all (K : List Nat) (x : Nat) (h : All 256 K) (hx : x < 256) : All 256 (K.map (· ^^^ x)) := by
  intro y hy
  obtain ⟨z, hz, rfl⟩ := List.mem_map.1 hy
  exact Nat.xor_lt_two_pow (n := 8) (h z hz) hx
theorem u8_xor (a b : Nat) (ha : a < 256) (hb : b < 256) : bits .xor .u8 (a : Int) (b : Int) = ((a ^^^ b : Nat) : Int) := by
  have hx : a ^^^ b < 256 := Nat.xor_lt_two_pow (n := 8) ha hb
  have e1 : ∀ x : Nat, x < 256 → (BitVec.ofInt 8 (x : Int)).toNat = x := fun x h => by simp; omega
  show IntKind.u8.wrap ((BitVec.ofInt 8 (a : Int) ^^^ BitVec.ofInt 8 (b : Int)).toNat : Int) = _
  rw [BitVec.toNat_xor, e1 a ha, e1 b hb]
  show ((_ : Int) % 256) = _
  omega
theorem flat_le {ps : List (List Nat)} {k : Nat} {p : List Nat} (h : ps[k]? = some p) : (ps.take k).flatten.length + p.length ≤ ps.flatten.length := by
  have e : ps.flatten = (ps.take (k + 1)).flatten ++ (ps.drop (k + 1)).flatten := by rw [← List.flatten_append, List.take_append_drop]
  rw [e, List.take_add_one, h]
  simp
theorem flat_take {ps : List (List Nat)} {k : Nat} {p : List Nat} (h : ps[k]? = some p) : (ps.take (k + 1)).flatten = (ps.take k).flatten ++ p := by
  rw [List.take_add_one, h]
  simp
theorem flat_all {ps : List (List Nat)} (h : ∀ p ∈ ps, All 256 p) : All 256 ps.flatten := by
  intro x hx
  obtain ⟨p, hp, hx⟩ := List.mem_flatten.1 hx
  exact h p hp x hx
theorem HashAt.grown {w w' : World} {g : Nat} {r all : List Nat} {past : Nat} {row : Option Nat} (h : HashAt w g r past all) (hb : w.grownBy w' row) (hg : row ≠ some g) : HashAt w' g r past all := h.keep (hb.block g h.lt (fun e => hg e.symm))
theorem sum_c (p : List Nat) (A : Option Addr) (n c : Nat) (w : World) (hn : n = p.length) (hp : n ≤ 150000000000000) (hpc : n ≤ c) (hpa : All 256 p) (hC : C8 w A p.length p) (ht : Tab1 w) (hf : TabF w) (h1 : 1 < w.heap.size) :
    Calls Tryd.prog 14 #[.slice A n c] w fun e w' => e = .returned (.agg ((sumOf p).map v8).toArray) ∧ Below w.heap.size w w' := by
  subst hn
  exact sum_any p A c w hp hpc hpa hC ht hf h1
set_option maxRecDepth 100000 in
set_option maxHeartbeats 1600000 in
theorem mac_any (key : List Nat) (ps : List (List Nat)) (A : Option Addr) (kl c : Nat) (B : Option Addr) (n cb : Nat) (w : World) (hkl : kl = key.length) (hkm : kl ≤ 150000000000000) (hkc : kl ≤ c) (hka : All 256 key) (hK : C8 w A key.length key)
    (hn : n = ps.length) (hmax : ps.flatten.length ≤ 150000000000000) (hpa : ∀ p ∈ ps, All 256 p) (hC : CP w B n ps) (ht : Tab1 w) (hf : TabF w) (h1 : 1 < w.heap.size) :
    Calls Tryd.prog 23 #[.slice A kl c, .slice B n cb] w fun e w' => e = .returned (.agg ((macOf key ps).map v8).toArray) ∧ Below w.heap.size w w' := by
  have hn9 : n ≤ 9223372036854775807 := hC.2.1
  obtain ⟨K, hKb⟩ : ∃ K, K = keyBlk key := ⟨_, rfl⟩
  have hKl : K.length = 64 := by rw [hKb]; exact keyBlk_len key
  have hKa : All 256 K := by rw [hKb]; exact keyBlk_all hka
  obtain ⟨S, hS⟩ : ∃ S, S = sumOf key := ⟨_, rfl⟩
  have hSl : S.length = 32 := by rw [hS]; exact sumOf_len key
  have hbig : 64 < kl → K = S ++ List.replicate 32 0 := fun h => by
    rw [hKb, hS]
    unfold keyBlk keyOf
    rw [if_pos (by omega), sumOf_len]
  have hsmall : kl ≤ 64 → K = key ++ List.replicate (64 - kl) 0 := fun h => by
    rw [hKb]
    unfold keyBlk keyOf
    rw [if_neg (by omega), hkl]
  obtain ⟨I, hI⟩ : ∃ I, I = K.map (· ^^^ 54) ++ ps.flatten := ⟨_, rfl⟩
  obtain ⟨SI, hSI⟩ : ∃ SI, SI = sumOf I := ⟨_, rfl⟩
  have hSIl : SI.length = 32 := by rw [hSI]; exact sumOf_len _
  have hSIa : All 256 SI := by rw [hSI]; exact sumOf_all _
  obtain ⟨D, hD⟩ : ∃ D, D = macOf key ps := ⟨_, rfl⟩
  have hDs : sumOf (K.map (· ^^^ 92) ++ SI) = D := by rw [hD, hSI, hI, hKb]; rfl
  have hDl : D.length = 32 := by rw [← hDs]; exact sumOf_len _
  rw [← hD]
  have HN := Lib.hid hn; have HC := Lib.hid hC; have HT := Lib.hid ht; have HF := Lib.hid hf; have HM := Lib.hid hmax; have HA := Lib.hid hpa
  have HKL := Lib.hid hKl; have HKA := Lib.hid hKa; have HS := Lib.hid hS; have HSL := Lib.hid hSl; have HI := Lib.hid hI; have HSI := Lib.hid hSI; have HSIL := Lib.hid hSIl; have HSIA := Lib.hid hSIa; have HD := Lib.hid hDs; have HDl := Lib.hid hDl
  have HK := Lib.hid hK; have HKN := Lib.hid hkl; have HBIG := Lib.hid hbig; have HSM := Lib.hid hsmall
  clear hn hC ht hf hmax hpa hKl hKa hS hSl hI hSI hSIl hSIa hD hDs hDl hK hkl hbig hsmall hKb
  rcases Nat.lt_or_ge 64 kl with h64 | h64
  all_goals go_enter Tryd.func23, Tryd.ntmps23
  · go_wp2_with (first
      | (go_at_call 14
         (
           have hb0 := fun o1 o2 => ((Below.refl w.heap.size w).alloc (Nat.le_refl _) o1).alloc (by simp) o2
           (with_reducible refine (sum_c key A kl c _ HKN.out hkm hkc hka (HK.out.below (hb0 _ _)) (HT.out.below (hb0 _ _) h1) (HF.out.below (hb0 _ _) ?hf) ?h1).mono ?_)
           case hf => omega
           case h1 => (simp <;> omega)
           rintro e w5 ⟨he5, hb5⟩
           rw [← HS.out] at he5
           subst he5
           have BK5 : Blk w5 (w.heap.size + 1) 74 (c8 (List.replicate 64 0)) := (Blk.new_ (w.alloc _) 74 (c8 (List.replicate 64 0)) _ (by simp)).below hb5 (by simp)
           have BZ5 : Blk w5 w.heap.size 24 (c8 (List.replicate 32 0)) := ((Blk.new w 24 (c8 (List.replicate 32 0))).alloc _).below hb5 (by simp <;> omega)
           have hb5' : Below w.heap.size w w5 := (hb0 _ _).trans (hb5.mono (by simp <;> omega))
           have hs5 : w.heap.size + 1 + 1 ≤ w5.heap.size := by have := hb5.size; simpa using this
           clear hb5 hb0))
      | (refine wpl_store rfl 24 _ _ rfl w5.heap.size 0 rfl 24 [] ((List.replicate 32 0).map v8) [] (S.map v8) rfl (Blk.new_ w5 24 (c8 (List.replicate 32 0)) _ rfl) rfl (by rw [List.length_map, HSL.out]; rfl) (by rw [List.length_map, HSL.out]; kernel_rfl) (v8_one _) ?_; intro w6 B6 O6))
    have BK6 := (BK5.alloc (.cells (c8 (List.replicate 32 0)) 24)).only O6 (by omega)
    have BZ6 := (BZ5.alloc (.cells (c8 (List.replicate 32 0)) 24)).only O6 (by omega)
    have hb6 := O6.below (hb5'.alloc hb5'.size _) (by omega)
    rw [List.nil_append, List.append_nil] at B6
    clear BK5 BZ5 hb5' O6
    dsimp only [Act.put]
    go_still_tail 2, (by kernel_rfl)
    change wpList _ _ _ _ _ w6.drew
    have BK7 : Blk w6.drew (w.heap.size + 1) 74 ([] ++ (List.replicate 32 0).map v8 ++ (List.replicate 32 0).map v8).toArray := by
      have h := BK6.drew
      rwa [show c8 (List.replicate 64 0) = ([] ++ (List.replicate 32 0).map v8 ++ (List.replicate 32 0).map v8).toArray from rfl] at h
    have hsrc : ∀ j v, (S.map v8)[j]? = some v → w6.drew.cell? ((Addr.mk w5.heap.size 0 none).add j) = some v := fun j v hv => by
      rw [Addr.add_mid, Nat.zero_add]
      exact (B6.drew.cell j).trans (by rw [List.getElem?_toArray]; exact hv)
    have hb7 : Below w.heap.size w w6.drew := ⟨hb6.os, hb6.tape, hb6.output, hb6.size, hb6.block⟩
    go_wp2_with (
      refine wpl_copy_n rfl _ _ _ _ rfl 5 Tryd.underlying22 (by kernel_rfl) _ _ _ _ _ _ rfl rfl (w.heap.size + 1) 0 74 [] ((List.replicate 32 0).map v8) ((List.replicate 32 0).map v8) (S.map v8) BK7 rfl (by simp [HSL.out]) (by simp [HSL.out]) (fun _ => ⟨rfl, _, rfl, hsrc⟩) (v8_one S) 32 (by simp [HSL.out]) ?_
      intro w8 B8 O8)
    have BK9 : Blk w8 (w.heap.size + 1) 74 (c8 K) := by
      have h := B8
      have e : (([] ++ S.map v8 ++ (List.replicate 32 0).map v8).toArray : Array Value) = c8 K := by rw [HBIG.out h64]; simp [c8]
      rwa [e] at h
    have BZ9 := BZ6.drew.only O8 (by omega)
    have hb9 := O8.below hb7 (by omega)
    clear BK7 BK6 BZ6 hb7 hb6 B8 O8 hsrc B6
    clear HBIG HSM HK HKN
    have g1 := BK9.lt
    go_wp2_with (first
      | (go_at_call 25; (with_reducible refine (new_any _ (HF.out.below hb9 (by omega))).mono ?_); rintro e w10 ⟨rfl, hw10⟩
         have H10 : HashAt w10 w8.heap.size first 0 [] := by rw [← hw10]; exact hash_new w8
         have hb10 : Below w.heap.size w w10 := by rw [← hw10]; exact hb9.alloc hb9.size _
         have BK10 : Blk w10 (w.heap.size + 1) 74 (c8 K) := by rw [← hw10]; exact BK9.alloc _
         have BZ10 : Blk w10 w.heap.size 24 (c8 (List.replicate 32 0)) := by rw [← hw10]; exact BZ9.alloc _
         have g2 := H10.lt
         clear hw10 BK9 BZ9)
      | (go_at_call 25; (with_reducible refine (new_any _ (HF.out.below hb10 (by omega))).mono ?_); rintro e w11 ⟨rfl, hw11⟩
         have H11 : HashAt w11 w8.heap.size first 0 [] := by rw [← hw11]; exact H10.alloc _
         have J11 : HashAt w11 w10.heap.size first 0 [] := by rw [← hw11]; exact hash_new w10
         have hb11 : Below w.heap.size w w11 := by rw [← hw11]; exact hb10.alloc hb10.size _
         have BK11 : Blk w11 (w.heap.size + 1) 74 ([] ++ K.map v8 ++ []).toArray := by rw [← hw11, List.nil_append, List.append_nil]; exact BK10.alloc _
         have BZ11 : Blk w11 w.heap.size 24 (c8 (List.replicate 32 0)) := by rw [← hw11]; exact BZ10.alloc _
         clear hw11 BK10 BZ10 H10)
      | (refine wpl_load rfl 74 _ rfl (w.heap.size + 1) 0 rfl 74 [] (K.map v8) [] BK11 rfl _ Tryd.underlying74 rfl (by rw [List.length_map, HKL.out]; kernel_rfl) ?_))
    go_loopw [28] (fun v wr => ∃ k : Nat, k ≤ 64 ∧ v = .int .i64 (k : Int) ∧ HashAt wr w8.heap.size first 0 ((K.take k).map (· ^^^ 54)) ∧ HashAt wr w10.heap.size first 0 ((K.take k).map (· ^^^ 92)) ∧ Below w.heap.size w wr ∧ Blk wr w.heap.size 24 (c8 (List.replicate 32 0))) (fun v _ => 64 - (intOf v).toNat)
    case atStart => exact ⟨0, by omega, rfl, H11, J11, hb11, BZ11⟩
    case round =>
      clear H11 J11 hb11 BZ11 BK11
      obtain ⟨k, hk, rfl, H, J, hb, BZ⟩ := hrel
      by_cases hlt : k < 64
      · obtain ⟨x, hx⟩ : ∃ x, K[k]? = some x := ⟨_, List.getElem?_eq_getElem (by rw [HKL.out]; exact hlt)⟩
        have hx2 : x < 256 := HKA.out x (List.mem_of_getElem? hx)
        have hidx : ∀ W : World, (Instr.index 74 (.agg (K.map v8).toArray) (.int .i64 (k : Int))).run Tryd.prog W = .ok (.int .u8 (x : Int)) W := fun W =>
          run_index_row 74 5 64 Tryd.underlying74 Tryd.underlying5 rfl (by kernel_rfl) _ k _ hlt (by rw [List.getElem?_toArray, List.getElem?_map, hx]; rfl) W
        have e54 : bits .xor .u8 (x : Int) 54 = ((x ^^^ 54 : Nat) : Int) := u8_xor x 54 hx2 (by decide)
        have e92 : bits .xor .u8 (x : Int) 92 = ((x ^^^ 92 : Nat) : Int) := u8_xor x 92 hx2 (by decide)
        obtain ⟨P, hP⟩ : ∃ P, P = (K.take k).map (· ^^^ 54) := ⟨_, rfl⟩
        obtain ⟨Q, hQ⟩ : ∃ Q, Q = (K.take k).map (· ^^^ 92) := ⟨_, rfl⟩
        have nP : (K.take (k + 1)).map (· ^^^ 54) = P ++ [x ^^^ 54] := by rw [List.take_add_one, hx, hP]; simp
        have nQ : (K.take (k + 1)).map (· ^^^ 92) = Q ++ [x ^^^ 92] := by rw [List.take_add_one, hx, hQ]; simp
        have aP : All 256 P := by rw [hP]; exact xor_all _ _ (fun y hy => HKA.out y (List.mem_of_mem_take hy)) (by decide)
        have aQ : All 256 Q := by rw [hQ]; exact xor_all _ _ (fun y hy => HKA.out y (List.mem_of_mem_take hy)) (by decide)
        have lP : P.length = k := by rw [hP]; simp [HKL.out]; omega
        have lQ : Q.length = k := by rw [hQ]; simp [HKL.out]; omega
        rw [← hP] at H
        rw [← hQ] at J
        have NP := Lib.hid nP; have NQ := Lib.hid nQ; have E54 := Lib.hid e54; have E92 := Lib.hid e92
        have x54 : x ^^^ 54 < 256 := Nat.xor_lt_two_pow (n := 8) hx2 (by decide)
        have x92 : x ^^^ 92 < 256 := Nat.xor_lt_two_pow (n := 8) hx2 (by decide)
        clear hP hQ nP nQ e54 e92 hx
        go_wp2_with (first
          | (go_at_call 18
             have hC1 := C8.one_ wr (x ^^^ 54) _ E54.out _ rfl
             have hl1 : 0 + P.length + [x ^^^ 54].length ≤ 2305843009213693952 := by rw [lP, List.length_singleton]; omega
             have hg1 : 0 < [x ^^^ 54].length → ∀ b o, some (Addr.mk wr.heap.size 0 none) = some ⟨b, o, none⟩ → b ≠ w8.heap.size := fun _ b o e => by injection e with e; injection e with e; have := H.lt; omega
             have hn1 : 1 = [x ^^^ 54].length := rfl
             have hT1 := fun o => HT.out.below (hb.alloc hb.size o) h1
             have hz1 : ∀ o, 1 < (wr.alloc o).heap.size := fun o => by have := hb.size; simp; omega
             have hH1 := fun o => H.alloc o
             have hw8 : 1 ≠ w8.heap.size := by omega
             have h64 : 0 % 64 = 0 := rfl
             have hle : 1 ≤ 1 := Nat.le_refl 1
             go_loud (with_reducible refine ((write_c w8.heap.size 0 first P [x ^^^ 54] _ 1 1 _ first_len first_all h64 hl1 (hH1 _) aP hn1 hle (All.one x54) hC1 hg1 (hT1 _) (hz1 _) hw8).mono ?_))
             rintro e w12 ⟨rfl, H12, G12⟩
             have J12 := (J.alloc _).grown G12 (fun e => by injection e with e; omega)
             have BZ12 := (BZ.alloc _).grown G12 (fun e => by injection e with e; omega)
             have hb12 : Below w.heap.size w w12 := (hb.alloc hb.size _).grown G12 (by have := hb.size; simp; omega) (fun k hk => by injection hk; omega)
             clear G12 hC1 hl1 hg1 hT1 hz1 hH1 H hn1 h64 hle hw8)
          | (go_at_call 18
             have hC1 := C8.one_ w12 (x ^^^ 92) _ E92.out _ rfl
             have hl1 : 0 + Q.length + [x ^^^ 92].length ≤ 2305843009213693952 := by rw [lQ, List.length_singleton]; omega
             have hg1 : 0 < [x ^^^ 92].length → ∀ b o, some (Addr.mk w12.heap.size 0 none) = some ⟨b, o, none⟩ → b ≠ w10.heap.size := fun _ b o e => by injection e with e; injection e with e; have := J12.lt; omega
             have hn2 : 1 = [x ^^^ 92].length := rfl
             have hT1 := fun o => HT.out.below (hb12.alloc hb12.size o) h1
             have hz1 : ∀ o, 1 < (w12.alloc o).heap.size := fun o => by have := hb12.size; simp; omega
             have hH1 := fun o => J12.alloc o
             have hw10 : 1 ≠ w10.heap.size := by omega
             have h64b : 0 % 64 = 0 := rfl
             have hle : 1 ≤ 1 := Nat.le_refl 1
             go_loud (with_reducible refine ((write_c w10.heap.size 0 first Q [x ^^^ 92] _ 1 1 _ first_len first_all h64b hl1 (hH1 _) aQ hn2 hle (All.one x92) hC1 hg1 (hT1 _) (hz1 _) hw10).mono ?_))
             rintro e w13 ⟨rfl, J13, G13⟩
             have H13 := (H12.alloc _).grown G13 (fun e => by injection e with e; omega)
             have BZ13 := (BZ12.alloc _).grown G13 (fun e => by injection e with e; omega)
             have hb13 : Below w.heap.size w w13 := (hb12.alloc hb12.size _).grown G13 (by have := hb12.size; simp; omega) (fun k hk => by injection hk; omega)
             clear G13 hC1 hl1 hg1 hT1 hz1 hH1 J12 hn2 h64b hle hw10)
          )
        exact ⟨⟨k + 1, by omega, rfl, by rw [NP.out]; exact H13, by rw [NQ.out]; exact J13, hb13, BZ13⟩, by simp [intOf]; omega⟩
      · have eK : K.take k = K := List.take_of_length_le (by rw [HKL.out]; omega)
        rw [eK] at H J
        obtain ⟨P, hP⟩ : ∃ P, P = K.map (· ^^^ 54) := ⟨_, rfl⟩
        obtain ⟨Q, hQ⟩ : ∃ Q, Q = K.map (· ^^^ 92) := ⟨_, rfl⟩
        have aP : All 256 P := by rw [hP]; exact xor_all _ _ HKA.out (by decide)
        have aQ : All 256 Q := by rw [hQ]; exact xor_all _ _ HKA.out (by decide)
        have lP : P.length = 64 := by rw [hP, List.length_map, HKL.out]
        have lQ : Q.length = 64 := by rw [hQ, List.length_map, HKL.out]
        rw [← hP] at H
        rw [← hQ] at J
        have HP := Lib.hid hP; have HQ := Lib.hid hQ; have LP := Lib.hid lP; have LQ := Lib.hid lQ
        have t1 : decide (k < 64) = false := decide_eq_false hlt
        clear hP hQ eK lP lQ
        go_wp2
        go_loopw [44] (fun v ws => ∃ j : Nat, j ≤ n ∧ v = .int .i64 (j : Int) ∧ HashAt ws w8.heap.size first 0 (P ++ (ps.take j).flatten) ∧ HashAt ws w10.heap.size first 0 Q ∧ Below w.heap.size w ws ∧ Blk ws w.heap.size 24 (c8 (List.replicate 32 0))) (fun v _ => n - (intOf v).toNat)
        case atStart => exact ⟨0, by omega, rfl, by rw [List.take_zero, List.flatten_nil, List.append_nil]; exact H, J, hb, BZ⟩
        case round =>
          clear H J hb BZ hlt t1
          obtain ⟨j, hj, rfl, H, J, hb, BZ⟩ := hrel
          by_cases hlt : j < n
          · obtain ⟨ad, p, Aj, cj, hA, hp, hcell, hle, hCj⟩ := HC.out.at_ j hlt
            subst hA
            have hfl := flat_le hp
            have hmax := HM.out
            have hpa : All 256 p := HA.out p (List.mem_of_getElem? hp)
            have hall : All 256 (P ++ (ps.take j).flatten) := aP.app (flat_all fun q hq => HA.out q (List.mem_of_mem_take hq))
            have hnext : P ++ (ps.take (j + 1)).flatten = P ++ (ps.take j).flatten ++ p := by rw [flat_take hp, List.append_assoc]
            have hl0 : 0 + (P ++ (ps.take j).flatten).length + p.length ≤ 2305843009213693952 := by rw [List.length_append, LP.out]; omega
            obtain ⟨J2, hJ2⟩ : ∃ J2, J2 = P ++ (ps.take j).flatten := ⟨_, rfl⟩
            rw [← hJ2] at H hall hnext hl0
            obtain ⟨pl, hpl⟩ : ∃ pl, pl = p.length := ⟨_, rfl⟩
            rw [← hpl] at hcell hle hfl
            have plm : pl ≤ 150000000000000 := by omega
            have HCj := Lib.hid hCj; have HPL := Lib.hid hpl; have HNX := Lib.hid hnext; have HL0 := Lib.hid hl0
            have c0 : wr.cell? (ad.add j) = some (.slice Aj pl cj) := (hb.cell (World.block_lt_of_cell? w _ hcell)).trans hcell
            have hg0 : 0 < p.length → ∀ b o, Aj = some ⟨b, o, none⟩ → b ≠ w8.heap.size := fun h0 b o e => by obtain ⟨b', o', e', hlt', _⟩ := HCj.out.at_ h0; rw [e'] at e; injection e with e; injection e with e; omega
            have HG := Lib.hid hg0
            clear hCj hpl hJ2 hp hfl hmax hcell hnext hl0 hg0
            go_wp2_with (
              go_at_call 18
              have hT1 := HT.out.below hb h1
              have hz1 : 1 < wr.heap.size := by have := hb.size; omega
              have hw8 : 1 ≠ w8.heap.size := by omega
              (with_reducible refine ((write_c w8.heap.size 0 first J2 p Aj pl cj _ first_len first_all (Nat.zero_mod 64) HL0.out H hall HPL.out hle hpa (HCj.out.below hb) HG.out hT1 hz1 hw8).mono ?_))
              rintro e w12 ⟨rfl, H12, G12⟩)
            have J12 := J.grown G12 (fun e => by injection e with e; omega)
            have BZ12 := BZ.grown G12 (fun e => by injection e with e; omega)
            have hb12 : Below w.heap.size w w12 := hb.grown G12 hb.size (fun k hk => by injection hk; omega)
            exact ⟨⟨j + 1, by omega, rfl, by rw [HNX.out]; exact H12, J12, hb12, BZ12⟩, by simp [intOf]; omega⟩
          · have ej : P ++ (ps.take j).flatten = I := by rw [HI.out, HP.out, show j = ps.length by have := HN.out; omega, List.take_length]
            have hIa : All 256 I := by rw [← ej]; exact aP.app (flat_all fun q hq => HA.out q (List.mem_of_mem_take hq))
            have hIl : I.length ≤ 150000000000064 := by rw [HI.out, List.length_append, List.length_map, HKL.out]; have := HM.out; omega
            rw [ej] at H
            have t1 : decide (j < n) = false := decide_eq_false hlt
            have EI : Hid (total first 0 I = SI) := HSI.out.symm
            clear ej
            have hT0 := HT.out.below hb h1
            have hz0 : 1 < wr.heap.size := by have := hb.size; omega
            have hm0 : 0 + I.length ≤ 1152921504606846976 + 150000000000000 := by omega
            have gQ := J.lt
            have gP := H.lt
            go_wp2_with (first
              | (go_at_call 19; (with_reducible refine (hsum_any w8.heap.size 0 first I _ first_len first_all (Nat.zero_mod 64) hm0 H hIa hT0 hz0).mono ?_); rintro e w14 ⟨he14, hb14⟩
                 rw [EI.out] at he14
                 subst he14
                 have J14 := J.below hb14
                 have BZ14 := BZ.below hb14 BZ.lt
                 have hb14' := hb.trans (hb14.mono hb.size)
                 have hs14 := hb14.size
                 clear H)
              | (refine wpl_store rfl 24 _ _ rfl w14.heap.size 0 rfl 24 [] ((List.replicate 32 0).map v8) [] (SI.map v8) rfl (Blk.new_ w14 24 (c8 (List.replicate 32 0)) _ rfl) rfl (by rw [List.length_map, HSIL.out]; rfl) (by rw [List.length_map, HSIL.out]; kernel_rfl) (v8_one _) ?_; intro w15 B15 O15))
            have J15 : HashAt w15 w10.heap.size first 0 Q := (J14.alloc (.cells (c8 (List.replicate 32 0)) 24)).keep (O15.block _ (by omega))
            have BZ15 : Blk w15 w.heap.size 24 (c8 (List.replicate 32 0)) := (BZ14.alloc (.cells (c8 (List.replicate 32 0)) 24)).only O15 (by omega)
            have hb15 : Below w.heap.size w w15 := O15.below (hb14'.alloc hb14'.size _) (by omega)
            have s15 : w15.heap.size = w14.heap.size + 1 := by rw [O15.size]; simp
            rw [List.nil_append, List.append_nil] at B15
            have C15 : C8 w15 (some ⟨w14.heap.size, 0, none⟩) SI.length SI := C8.of_Bs (fun i hi => (B15.cell (0 + i)).trans (by rw [List.getElem?_toArray, List.getElem?_map, Nat.zero_add, List.getElem?_eq_getElem hi, List.getD_eq_getElem?_getD, List.getElem?_eq_getElem hi]; rfl)) (by rw [HSIL.out]; omega)
            have hw15 : 0 < SI.length → ∀ b o, some (Addr.mk w14.heap.size 0 none) = some ⟨b, o, none⟩ → b ≠ w10.heap.size := fun _ b o e => by injection e with e; injection e with e; omega
            have hl15 : 0 + Q.length + SI.length ≤ 2305843009213693952 := by rw [LQ.out, HSIL.out]; omega
            have hT15 := HT.out.below hb15 h1
            have hz15 : 1 < w15.heap.size := by omega
            have h110 : 1 ≠ w10.heap.size := by omega
            have HA15 := Lib.hid hw15; have HL15 := Lib.hid hl15
            have hSIa := HSIA.out
            have HDs : Hid (total first 0 (Q ++ SI) = D) := by rw [HQ.out]; exact HD.out
            clear J14 BZ14 hb14 hb14' O15 B15 hw15 hl15 hIa
            go_wp2_with (first
              | (go_at_call 18
                 (with_reducible refine ((write_c w10.heap.size 0 first Q SI _ 32 32 _ first_len first_all (Nat.zero_mod 64) HL15.out J15 aQ HSIL.out.symm (Nat.le_refl 32) hSIa C15 HA15.out hT15 hz15 h110).mono ?_))
                 rintro e w16 ⟨rfl, H16, G16⟩
                 have BZ16 := BZ15.grown G16 (fun e => by injection e with e; omega)
                 have hb16 : Below w.heap.size w w16 := hb15.grown G16 hb15.size (fun k hk => by injection hk; omega)
                 have hT16 := HT.out.below hb16 h1
                 have hz16 : 1 < w16.heap.size := by have := hb16.size; omega
                 have hm16 : Hid (0 + (Q ++ SI).length ≤ 1152921504606846976 + 150000000000000) := by show _ ≤ _; rw [List.length_append, LQ.out, HSIL.out]; omega
                 have ha16 : All 256 (Q ++ SI) := aQ.app hSIa
                 clear J15)
              | (go_at_call 19; (with_reducible refine (hsum_any w10.heap.size 0 first (Q ++ SI) _ first_len first_all (Nat.zero_mod 64) hm16.out H16 ha16 hT16 hz16).mono ?_); rintro e w17 ⟨he17, hb17⟩
                 rw [HDs.out] at he17
                 subst he17
                 have BZ17 : Blk w17 w.heap.size 24 ([] ++ (List.replicate 32 0).map v8 ++ []).toArray := BZ16.below hb17 BZ16.lt
                 have hb17' := hb16.trans (hb17.mono hb16.size))
              | (refine wpl_store rfl 24 _ _ rfl w.heap.size 0 rfl 24 [] ((List.replicate 32 0).map v8) [] (D.map v8) rfl BZ17 rfl (by rw [List.length_map, HDl.out]; rfl) (by rw [List.length_map, HDl.out]; kernel_rfl) (v8_one D) ?_; intro w19 B19 O19))
            exact bodyPost_ret (results_cell_row rfl _ _ w.heap.size 24 (D.map v8).toArray (0, 0) _ rfl (by have h9 := B19; rw [List.nil_append, List.append_nil] at h9; exact h9) Tryd.underlying24 rfl (by rw [show (D.map v8).toArray.size = 32 by simp [HDl.out]]; kernel_rfl)) rfl ⟨rfl, O19.below hb17' (Nat.le_refl _)⟩
  · have ez : List.replicate 64 0 = List.replicate kl 0 ++ List.replicate (64 - kl) 0 := by rw [List.replicate_append_replicate]; congr 1; omega
    have ez2 : c8 (List.replicate 64 0) = ([] ++ (List.replicate kl 0).map v8 ++ (List.replicate (64 - kl) 0).map v8).toArray := by rw [ez]; simp [c8]
    have EZ := Lib.hid ez2
    have kl0 : (0 : Int) ≤ (kl : Int) := by omega
    clear ez ez2
    go_wp2_with (
      have hb0 := fun o1 o2 => ((Below.refl w.heap.size w).alloc (Nat.le_refl _) o1).alloc (by simp) o2
      (
        refine wpl_copy_n rfl _ _ _ _ rfl 5 Tryd.underlying22 (by kernel_rfl) _ _ _ _ _ _ rfl rfl (w.heap.size + 1) 0 74 [] ((List.replicate kl 0).map v8) ((List.replicate (64 - kl) 0).map v8) (key.map v8) (by rw [← EZ.out]; exact Blk.new_ (w.alloc _) 74 (c8 (List.replicate 64 0)) (w.heap.size + 1) (by simp)) rfl
          (by rw [List.length_map, List.length_map, List.length_replicate, HKN.out]) (by rw [List.length_map, ← HKN.out]; exact (Nat.min_eq_left h64).symm)
          (fun h0 => by obtain ⟨b', o', e', hlt', hbs⟩ := (HK.out.below (hb0 _ _)).at_ (by simpa using h0); exact ⟨rfl, _, e', bs_cells hbs⟩) (v8_one key) kl (by rw [List.length_map, HKN.out]) ?_)
      have hb0' := hb0 (.cells (c8 (List.replicate 32 0)) 24) (.cells (c8 (List.replicate 64 0)) 74)
      clear hb0
      intro w8 B8 O8)
    have BK9 : Blk w8 (w.heap.size + 1) 74 (c8 K) := by
      have h := B8
      have e : (([] ++ key.map v8 ++ (List.replicate (64 - kl) 0).map v8).toArray : Array Value) = c8 K := by rw [HSM.out h64]; simp [c8]
      rwa [e] at h
    have BZ9 : Blk w8 w.heap.size 24 (c8 (List.replicate 32 0)) := ((Blk.new w 24 (c8 (List.replicate 32 0))).alloc _).only O8 (by omega)
    have hb9 : Below w.heap.size w w8 := O8.below hb0' (by omega)
    clear HBIG HSM HK HKN
    have g1 := BK9.lt
    go_wp2_with (first
      | (go_at_call 25; (with_reducible refine (new_any _ (HF.out.below hb9 (by omega))).mono ?_); rintro e w10 ⟨rfl, hw10⟩
         have H10 : HashAt w10 w8.heap.size first 0 [] := by rw [← hw10]; exact hash_new w8
         have hb10 : Below w.heap.size w w10 := by rw [← hw10]; exact hb9.alloc hb9.size _
         have BK10 : Blk w10 (w.heap.size + 1) 74 (c8 K) := by rw [← hw10]; exact BK9.alloc _
         have BZ10 : Blk w10 w.heap.size 24 (c8 (List.replicate 32 0)) := by rw [← hw10]; exact BZ9.alloc _
         have g2 := H10.lt
         clear hw10 BK9 BZ9)
      | (go_at_call 25; (with_reducible refine (new_any _ (HF.out.below hb10 (by omega))).mono ?_); rintro e w11 ⟨rfl, hw11⟩
         have H11 : HashAt w11 w8.heap.size first 0 [] := by rw [← hw11]; exact H10.alloc _
         have J11 : HashAt w11 w10.heap.size first 0 [] := by rw [← hw11]; exact hash_new w10
         have hb11 : Below w.heap.size w w11 := by rw [← hw11]; exact hb10.alloc hb10.size _
         have BK11 : Blk w11 (w.heap.size + 1) 74 ([] ++ K.map v8 ++ []).toArray := by rw [← hw11, List.nil_append, List.append_nil]; exact BK10.alloc _
         have BZ11 : Blk w11 w.heap.size 24 (c8 (List.replicate 32 0)) := by rw [← hw11]; exact BZ10.alloc _
         clear hw11 BK10 BZ10 H10)
      | (refine wpl_load rfl 74 _ rfl (w.heap.size + 1) 0 rfl 74 [] (K.map v8) [] BK11 rfl _ Tryd.underlying74 rfl (by rw [List.length_map, HKL.out]; kernel_rfl) ?_))
    go_loopw [28] (fun v wr => ∃ k : Nat, k ≤ 64 ∧ v = .int .i64 (k : Int) ∧ HashAt wr w8.heap.size first 0 ((K.take k).map (· ^^^ 54)) ∧ HashAt wr w10.heap.size first 0 ((K.take k).map (· ^^^ 92)) ∧ Below w.heap.size w wr ∧ Blk wr w.heap.size 24 (c8 (List.replicate 32 0))) (fun v _ => 64 - (intOf v).toNat)
    case atStart => exact ⟨0, by omega, rfl, H11, J11, hb11, BZ11⟩
    case round =>
      clear H11 J11 hb11 BZ11 BK11
      obtain ⟨k, hk, rfl, H, J, hb, BZ⟩ := hrel
      by_cases hlt : k < 64
      · obtain ⟨x, hx⟩ : ∃ x, K[k]? = some x := ⟨_, List.getElem?_eq_getElem (by rw [HKL.out]; exact hlt)⟩
        have hx2 : x < 256 := HKA.out x (List.mem_of_getElem? hx)
        have hidx : ∀ W : World, (Instr.index 74 (.agg (K.map v8).toArray) (.int .i64 (k : Int))).run Tryd.prog W = .ok (.int .u8 (x : Int)) W := fun W =>
          run_index_row 74 5 64 Tryd.underlying74 Tryd.underlying5 rfl (by kernel_rfl) _ k _ hlt (by rw [List.getElem?_toArray, List.getElem?_map, hx]; rfl) W
        have e54 : bits .xor .u8 (x : Int) 54 = ((x ^^^ 54 : Nat) : Int) := u8_xor x 54 hx2 (by decide)
        have e92 : bits .xor .u8 (x : Int) 92 = ((x ^^^ 92 : Nat) : Int) := u8_xor x 92 hx2 (by decide)
        obtain ⟨P, hP⟩ : ∃ P, P = (K.take k).map (· ^^^ 54) := ⟨_, rfl⟩
        obtain ⟨Q, hQ⟩ : ∃ Q, Q = (K.take k).map (· ^^^ 92) := ⟨_, rfl⟩
        have nP : (K.take (k + 1)).map (· ^^^ 54) = P ++ [x ^^^ 54] := by rw [List.take_add_one, hx, hP]; simp
        have nQ : (K.take (k + 1)).map (· ^^^ 92) = Q ++ [x ^^^ 92] := by rw [List.take_add_one, hx, hQ]; simp
        have aP : All 256 P := by rw [hP]; exact xor_all _ _ (fun y hy => HKA.out y (List.mem_of_mem_take hy)) (by decide)
        have aQ : All 256 Q := by rw [hQ]; exact xor_all _ _ (fun y hy => HKA.out y (List.mem_of_mem_take hy)) (by decide)
        have lP : P.length = k := by rw [hP]; simp [HKL.out]; omega
        have lQ : Q.length = k := by rw [hQ]; simp [HKL.out]; omega
        rw [← hP] at H
        rw [← hQ] at J
        have NP := Lib.hid nP; have NQ := Lib.hid nQ; have E54 := Lib.hid e54; have E92 := Lib.hid e92
        have x54 : x ^^^ 54 < 256 := Nat.xor_lt_two_pow (n := 8) hx2 (by decide)
        have x92 : x ^^^ 92 < 256 := Nat.xor_lt_two_pow (n := 8) hx2 (by decide)
        clear hP hQ nP nQ e54 e92 hx
        go_wp2_with (first
          | (go_at_call 18
             have hC1 := C8.one_ wr (x ^^^ 54) _ E54.out _ rfl
             have hl1 : 0 + P.length + [x ^^^ 54].length ≤ 2305843009213693952 := by rw [lP, List.length_singleton]; omega
             have hg1 : 0 < [x ^^^ 54].length → ∀ b o, some (Addr.mk wr.heap.size 0 none) = some ⟨b, o, none⟩ → b ≠ w8.heap.size := fun _ b o e => by injection e with e; injection e with e; have := H.lt; omega
             have hn1 : 1 = [x ^^^ 54].length := rfl
             have hT1 := fun o => HT.out.below (hb.alloc hb.size o) h1
             have hz1 : ∀ o, 1 < (wr.alloc o).heap.size := fun o => by have := hb.size; simp; omega
             have hH1 := fun o => H.alloc o
             have hw8 : 1 ≠ w8.heap.size := by omega
             have h64 : 0 % 64 = 0 := rfl
             have hle : 1 ≤ 1 := Nat.le_refl 1
             go_loud (with_reducible refine ((write_c w8.heap.size 0 first P [x ^^^ 54] _ 1 1 _ first_len first_all h64 hl1 (hH1 _) aP hn1 hle (All.one x54) hC1 hg1 (hT1 _) (hz1 _) hw8).mono ?_))
             rintro e w12 ⟨rfl, H12, G12⟩
             have J12 := (J.alloc _).grown G12 (fun e => by injection e with e; omega)
             have BZ12 := (BZ.alloc _).grown G12 (fun e => by injection e with e; omega)
             have hb12 : Below w.heap.size w w12 := (hb.alloc hb.size _).grown G12 (by have := hb.size; simp; omega) (fun k hk => by injection hk; omega)
             clear G12 hC1 hl1 hg1 hT1 hz1 hH1 H hn1 h64 hle hw8)
          | (go_at_call 18
             have hC1 := C8.one_ w12 (x ^^^ 92) _ E92.out _ rfl
             have hl1 : 0 + Q.length + [x ^^^ 92].length ≤ 2305843009213693952 := by rw [lQ, List.length_singleton]; omega
             have hg1 : 0 < [x ^^^ 92].length → ∀ b o, some (Addr.mk w12.heap.size 0 none) = some ⟨b, o, none⟩ → b ≠ w10.heap.size := fun _ b o e => by injection e with e; injection e with e; have := J12.lt; omega
             have hn2 : 1 = [x ^^^ 92].length := rfl
             have hT1 := fun o => HT.out.below (hb12.alloc hb12.size o) h1
             have hz1 : ∀ o, 1 < (w12.alloc o).heap.size := fun o => by have := hb12.size; simp; omega
             have hH1 := fun o => J12.alloc o
             have hw10 : 1 ≠ w10.heap.size := by omega
             have h64b : 0 % 64 = 0 := rfl
             have hle : 1 ≤ 1 := Nat.le_refl 1
             go_loud (with_reducible refine ((write_c w10.heap.size 0 first Q [x ^^^ 92] _ 1 1 _ first_len first_all h64b hl1 (hH1 _) aQ hn2 hle (All.one x92) hC1 hg1 (hT1 _) (hz1 _) hw10).mono ?_))
             rintro e w13 ⟨rfl, J13, G13⟩
             have H13 := (H12.alloc _).grown G13 (fun e => by injection e with e; omega)
             have BZ13 := (BZ12.alloc _).grown G13 (fun e => by injection e with e; omega)
             have hb13 : Below w.heap.size w w13 := (hb12.alloc hb12.size _).grown G13 (by have := hb12.size; simp; omega) (fun k hk => by injection hk; omega)
             clear G13 hC1 hl1 hg1 hT1 hz1 hH1 J12 hn2 h64b hle hw10)
          )
        exact ⟨⟨k + 1, by omega, rfl, by rw [NP.out]; exact H13, by rw [NQ.out]; exact J13, hb13, BZ13⟩, by simp [intOf]; omega⟩
      · have eK : K.take k = K := List.take_of_length_le (by rw [HKL.out]; omega)
        rw [eK] at H J
        obtain ⟨P, hP⟩ : ∃ P, P = K.map (· ^^^ 54) := ⟨_, rfl⟩
        obtain ⟨Q, hQ⟩ : ∃ Q, Q = K.map (· ^^^ 92) := ⟨_, rfl⟩
        have aP : All 256 P := by rw [hP]; exact xor_all _ _ HKA.out (by decide)
        have aQ : All 256 Q := by rw [hQ]; exact xor_all _ _ HKA.out (by decide)
        have lP : P.length = 64 := by rw [hP, List.length_map, HKL.out]
        have lQ : Q.length = 64 := by rw [hQ, List.length_map, HKL.out]
        rw [← hP] at H
        rw [← hQ] at J
        have HP := Lib.hid hP; have HQ := Lib.hid hQ; have LP := Lib.hid lP; have LQ := Lib.hid lQ
        have t1 : decide (k < 64) = false := decide_eq_false hlt
        clear hP hQ eK lP lQ
        go_wp2
        go_loopw [44] (fun v ws => ∃ j : Nat, j ≤ n ∧ v = .int .i64 (j : Int) ∧ HashAt ws w8.heap.size first 0 (P ++ (ps.take j).flatten) ∧ HashAt ws w10.heap.size first 0 Q ∧ Below w.heap.size w ws ∧ Blk ws w.heap.size 24 (c8 (List.replicate 32 0))) (fun v _ => n - (intOf v).toNat)
        case atStart => exact ⟨0, by omega, rfl, by rw [List.take_zero, List.flatten_nil, List.append_nil]; exact H, J, hb, BZ⟩
        case round =>
          clear H J hb BZ hlt t1
          obtain ⟨j, hj, rfl, H, J, hb, BZ⟩ := hrel
          by_cases hlt : j < n
          · obtain ⟨ad, p, Aj, cj, hA, hp, hcell, hle, hCj⟩ := HC.out.at_ j hlt
            subst hA
            have hfl := flat_le hp
            have hmax := HM.out
            have hpa : All 256 p := HA.out p (List.mem_of_getElem? hp)
            have hall : All 256 (P ++ (ps.take j).flatten) := aP.app (flat_all fun q hq => HA.out q (List.mem_of_mem_take hq))
            have hnext : P ++ (ps.take (j + 1)).flatten = P ++ (ps.take j).flatten ++ p := by rw [flat_take hp, List.append_assoc]
            have hl0 : 0 + (P ++ (ps.take j).flatten).length + p.length ≤ 2305843009213693952 := by rw [List.length_append, LP.out]; omega
            obtain ⟨J2, hJ2⟩ : ∃ J2, J2 = P ++ (ps.take j).flatten := ⟨_, rfl⟩
            rw [← hJ2] at H hall hnext hl0
            obtain ⟨pl, hpl⟩ : ∃ pl, pl = p.length := ⟨_, rfl⟩
            rw [← hpl] at hcell hle hfl
            have plm : pl ≤ 150000000000000 := by omega
            have HCj := Lib.hid hCj; have HPL := Lib.hid hpl; have HNX := Lib.hid hnext; have HL0 := Lib.hid hl0
            have c0 : wr.cell? (ad.add j) = some (.slice Aj pl cj) := (hb.cell (World.block_lt_of_cell? w _ hcell)).trans hcell
            have hg0 : 0 < p.length → ∀ b o, Aj = some ⟨b, o, none⟩ → b ≠ w8.heap.size := fun h0 b o e => by obtain ⟨b', o', e', hlt', _⟩ := HCj.out.at_ h0; rw [e'] at e; injection e with e; injection e with e; omega
            have HG := Lib.hid hg0
            clear hCj hpl hJ2 hp hfl hmax hcell hnext hl0 hg0
            go_wp2_with (
              go_at_call 18
              have hT1 := HT.out.below hb h1
              have hz1 : 1 < wr.heap.size := by have := hb.size; omega
              have hw8 : 1 ≠ w8.heap.size := by omega
              (with_reducible refine ((write_c w8.heap.size 0 first J2 p Aj pl cj _ first_len first_all (Nat.zero_mod 64) HL0.out H hall HPL.out hle hpa (HCj.out.below hb) HG.out hT1 hz1 hw8).mono ?_))
              rintro e w12 ⟨rfl, H12, G12⟩)
            have J12 := J.grown G12 (fun e => by injection e with e; omega)
            have BZ12 := BZ.grown G12 (fun e => by injection e with e; omega)
            have hb12 : Below w.heap.size w w12 := hb.grown G12 hb.size (fun k hk => by injection hk; omega)
            exact ⟨⟨j + 1, by omega, rfl, by rw [HNX.out]; exact H12, J12, hb12, BZ12⟩, by simp [intOf]; omega⟩
          · have ej : P ++ (ps.take j).flatten = I := by rw [HI.out, HP.out, show j = ps.length by have := HN.out; omega, List.take_length]
            have hIa : All 256 I := by rw [← ej]; exact aP.app (flat_all fun q hq => HA.out q (List.mem_of_mem_take hq))
            have hIl : I.length ≤ 150000000000064 := by rw [HI.out, List.length_append, List.length_map, HKL.out]; have := HM.out; omega
            rw [ej] at H
            have t1 : decide (j < n) = false := decide_eq_false hlt
            have EI : Hid (total first 0 I = SI) := HSI.out.symm
            clear ej
            have hT0 := HT.out.below hb h1
            have hz0 : 1 < wr.heap.size := by have := hb.size; omega
            have hm0 : 0 + I.length ≤ 1152921504606846976 + 150000000000000 := by omega
            have gQ := J.lt
            have gP := H.lt
            go_wp2_with (first
              | (go_at_call 19; (with_reducible refine (hsum_any w8.heap.size 0 first I _ first_len first_all (Nat.zero_mod 64) hm0 H hIa hT0 hz0).mono ?_); rintro e w14 ⟨he14, hb14⟩
                 rw [EI.out] at he14
                 subst he14
                 have J14 := J.below hb14
                 have BZ14 := BZ.below hb14 BZ.lt
                 have hb14' := hb.trans (hb14.mono hb.size)
                 have hs14 := hb14.size
                 clear H)
              | (refine wpl_store rfl 24 _ _ rfl w14.heap.size 0 rfl 24 [] ((List.replicate 32 0).map v8) [] (SI.map v8) rfl (Blk.new_ w14 24 (c8 (List.replicate 32 0)) _ rfl) rfl (by rw [List.length_map, HSIL.out]; rfl) (by rw [List.length_map, HSIL.out]; kernel_rfl) (v8_one _) ?_; intro w15 B15 O15))
            have J15 : HashAt w15 w10.heap.size first 0 Q := (J14.alloc (.cells (c8 (List.replicate 32 0)) 24)).keep (O15.block _ (by omega))
            have BZ15 : Blk w15 w.heap.size 24 (c8 (List.replicate 32 0)) := (BZ14.alloc (.cells (c8 (List.replicate 32 0)) 24)).only O15 (by omega)
            have hb15 : Below w.heap.size w w15 := O15.below (hb14'.alloc hb14'.size _) (by omega)
            have s15 : w15.heap.size = w14.heap.size + 1 := by rw [O15.size]; simp
            rw [List.nil_append, List.append_nil] at B15
            have C15 : C8 w15 (some ⟨w14.heap.size, 0, none⟩) SI.length SI := C8.of_Bs (fun i hi => (B15.cell (0 + i)).trans (by rw [List.getElem?_toArray, List.getElem?_map, Nat.zero_add, List.getElem?_eq_getElem hi, List.getD_eq_getElem?_getD, List.getElem?_eq_getElem hi]; rfl)) (by rw [HSIL.out]; omega)
            have hw15 : 0 < SI.length → ∀ b o, some (Addr.mk w14.heap.size 0 none) = some ⟨b, o, none⟩ → b ≠ w10.heap.size := fun _ b o e => by injection e with e; injection e with e; omega
            have hl15 : 0 + Q.length + SI.length ≤ 2305843009213693952 := by rw [LQ.out, HSIL.out]; omega
            have hT15 := HT.out.below hb15 h1
            have hz15 : 1 < w15.heap.size := by omega
            have h110 : 1 ≠ w10.heap.size := by omega
            have HA15 := Lib.hid hw15; have HL15 := Lib.hid hl15
            have hSIa := HSIA.out
            have HDs : Hid (total first 0 (Q ++ SI) = D) := by rw [HQ.out]; exact HD.out
            clear J14 BZ14 hb14 hb14' O15 B15 hw15 hl15 hIa
            go_wp2_with (first
              | (go_at_call 18
                 (with_reducible refine ((write_c w10.heap.size 0 first Q SI _ 32 32 _ first_len first_all (Nat.zero_mod 64) HL15.out J15 aQ HSIL.out.symm (Nat.le_refl 32) hSIa C15 HA15.out hT15 hz15 h110).mono ?_))
                 rintro e w16 ⟨rfl, H16, G16⟩
                 have BZ16 := BZ15.grown G16 (fun e => by injection e with e; omega)
                 have hb16 : Below w.heap.size w w16 := hb15.grown G16 hb15.size (fun k hk => by injection hk; omega)
                 have hT16 := HT.out.below hb16 h1
                 have hz16 : 1 < w16.heap.size := by have := hb16.size; omega
                 have hm16 : Hid (0 + (Q ++ SI).length ≤ 1152921504606846976 + 150000000000000) := by show _ ≤ _; rw [List.length_append, LQ.out, HSIL.out]; omega
                 have ha16 : All 256 (Q ++ SI) := aQ.app hSIa
                 clear J15)
              | (go_at_call 19; (with_reducible refine (hsum_any w10.heap.size 0 first (Q ++ SI) _ first_len first_all (Nat.zero_mod 64) hm16.out H16 ha16 hT16 hz16).mono ?_); rintro e w17 ⟨he17, hb17⟩
                 rw [HDs.out] at he17
                 subst he17
                 have BZ17 : Blk w17 w.heap.size 24 ([] ++ (List.replicate 32 0).map v8 ++ []).toArray := BZ16.below hb17 BZ16.lt
                 have hb17' := hb16.trans (hb17.mono hb16.size))
              | (refine wpl_store rfl 24 _ _ rfl w.heap.size 0 rfl 24 [] ((List.replicate 32 0).map v8) [] (D.map v8) rfl BZ17 rfl (by rw [List.length_map, HDl.out]; rfl) (by rw [List.length_map, HDl.out]; kernel_rfl) (v8_one D) ?_; intro w19 B19 O19))
            exact bodyPost_ret (results_cell_row rfl _ _ w.heap.size 24 (D.map v8).toArray (0, 0) _ rfl (by have h9 := B19; rw [List.nil_append, List.append_nil] at h9; exact h9) Tryd.underlying24 rfl (by rw [show (D.map v8).toArray.size = 32 by simp [HDl.out]]; kernel_rfl)) rfl ⟨rfl, O19.below hb17' (Nat.le_refl _)⟩
end Go.Proofs.YtfedlgcpgfofjaaDoor.Sha
