/-
  Joined: what the call does, walked; rows of rows of bytes.
-/
import Derived.Test.YtfedlgcpgfofjaaDoorDLive
import Derived.Test.YtfedlgcpgfofjaaDoorDSha2
namespace Go.Proofs.YtfedlgcpgfofjaaDoor.Sha
open Go.RowKit Go.Proofs.YtfedlgcpgfofjaaDoorW.PrintWords
set_option linter.unusedVariables false
/-- A slice of slices of bytes. -/
def CP (w : World) (A : Option Addr) (n : Nat) (ps : List (List Nat)) : Prop := Kd.C (Kd.slice 5 (Kd.int .u8)) w A n (ps.map toI)
theorem CP.below {w w' : World} {A : Option Addr} {n : Nat} {ps : List (List Nat)} (h : CP w A n ps) (hb : Below w.heap.size w w') : CP w' A n ps := Kd.C_below h hb
theorem CP.len {w : World} {A : Option Addr} {n : Nat} {ps : List (List Nat)} (h : CP w A n ps) : ps.length = n := by
  have := h.1
  rwa [List.length_map] at this
theorem CP.at_ {w : World} {A : Option Addr} {n : Nat} {ps : List (List Nat)} (h : CP w A n ps) (i : Nat) (hi : i < n) :
    ∃ ad p Aj cj, A = some ad ∧ ps[i]? = some p ∧ w.cell? (ad.add i) = some (.slice Aj p.length cj) ∧ p.length ≤ cj ∧ C8 w Aj p.length p := by
  obtain ⟨ad, cs, e, hl, ⟨Aj, cj, hcs, hle, hC⟩, hcell⟩ := Kd.C_get h [] (i : Int) (by omega) (by omega)
  have hi' : i < ps.length := by rw [h.len]; exact hi
  have hp : ps[i]? = some ps[i] := List.getElem?_eq_getElem hi'
  have hg : (ps.map toI).getD (i : Int).toNat [] = toI ps[i] := by
    simp [List.getD, hi']
  rw [hg, toI_len] at hcs hle hC
  subst hcs
  have := hcell 0 _ rfl
  refine ⟨ad, _, Aj, cj, e, hp, ?_, hle, hC⟩
  rw [show (i : Int).toNat * (Kd.slice 5 (Kd.int IntKind.u8)).sz + 0 = i by show (i : Int).toNat * 1 + 0 = i; omega] at this
  exact this
/-- The parts, each behind its size. -/
def joinOf (ps : List (List Nat)) : List Nat := ps.flatMap fun p => eight p.length ++ p
theorem joinOf_app (ps qs : List (List Nat)) : joinOf (ps ++ qs) = joinOf ps ++ joinOf qs := by simp [joinOf]
theorem joinOf_take {ps : List (List Nat)} {k : Nat} {p : List Nat} (h : ps[k]? = some p) : joinOf (ps.take (k + 1)) = joinOf (ps.take k) ++ eight p.length ++ p := by
  rw [List.take_add_one, h, joinOf_app, List.append_assoc]
  simp [joinOf]
theorem joinOf_le {ps : List (List Nat)} {k : Nat} {p : List Nat} (h : ps[k]? = some p) : (joinOf (ps.take k)).length + 8 + p.length ≤ (joinOf ps).length := by
  have e : joinOf ps = joinOf (ps.take (k + 1)) ++ joinOf (ps.drop (k + 1)) := by rw [← joinOf_app, List.take_append_drop]
  rw [e, joinOf_take h]
  simp [eight_len]
  omega
theorem joinOf_all {ps : List (List Nat)} (h : ∀ p ∈ ps, All 256 p) : All 256 (joinOf ps) := by
  intro x hx
  obtain ⟨p, hp, hx⟩ := List.mem_flatMap.1 hx
  rcases List.mem_append.1 hx with hx | hx
  · exact eight_all _ x hx
  · exact h p hp x hx
set_option maxRecDepth 100000 in
set_option maxHeartbeats 800000 in
theorem joined_any (ps : List (List Nat)) (A : Option Addr) (n c : Nat) (w : World) (hn : n = ps.length) (hmax : (joinOf ps).length ≤ 100000000000000) (hpa : ∀ p ∈ ps, All 256 p) (hC : CP w A n ps) (ht : Tab1 w) (hf : TabF w) (h1 : 1 < w.heap.size) :
    Calls Tryd.prog 24 #[.slice A n c] w fun e w' => e = .returned (.agg ((sumOf (joinOf ps)).map v8).toArray) ∧ Below w.heap.size w w' := by
  have hn9 : n ≤ 9223372036854775807 := hC.2.1
  have HN := Lib.hid hn; have HC := Lib.hid hC; have HT := Lib.hid ht; have HF := Lib.hid hf; have HM := Lib.hid hmax; have HA := Lib.hid hpa
  clear hn hC ht hf hmax hpa
  obtain ⟨D, hD⟩ : ∃ D, D = sumOf (joinOf ps) := ⟨_, rfl⟩
  have hDl : D.length = 32 := by rw [hD]; exact sumOf_len _
  rw [← hD]
  have HD := Lib.hid hD; have HDl := Lib.hid hDl
  clear hD hDl
  go_enter Tryd.func24, Tryd.ntmps24
  go_wp2_with (first
    | (go_at_call 25; (with_reducible refine (new_any _ (HF.out.below ((Below.refl w.heap.size w).alloc (Nat.le_refl _) _) (by omega))).mono ?_); rintro e w1 ⟨rfl, hw1⟩
       have H1 : HashAt w1 (w.heap.size + 1) first 0 [] := by
         rw [← hw1]; exact ⟨List.replicate 64 0, Blk.new_ (w.alloc _) 76 _ _ (by simp), rfl, All.rep (by decide) 64, rfl⟩
       have hb1 : Below w.heap.size w w1 := by rw [← hw1]; exact ((Below.refl w.heap.size w).alloc (Nat.le_refl _) _).alloc (by simp) _
       have BZ1 : Blk w1 w.heap.size 24 (c8 (List.replicate 32 0)) := by rw [← hw1]; exact (Blk.new w 24 _).alloc _
       clear hw1))
  go_loopw [9] (fun v wr => ∃ k : Nat, k ≤ n ∧ v = .int .i64 (k : Int) ∧ HashAt wr (w.heap.size + 1) first 0 (joinOf (ps.take k)) ∧ Below w.heap.size w wr ∧ Blk wr w.heap.size 24 (c8 (List.replicate 32 0))) (fun v _ => n - (intOf v).toNat)
  case atStart => exact ⟨0, by omega, rfl, H1, hb1, BZ1⟩
  case round =>
    clear H1 hb1 BZ1
    obtain ⟨k, hk, rfl, H, hb, BZ⟩ := hrel
    by_cases hlt : k < n
    · obtain ⟨ad, p, Aj, cj, hA, hp, hcell, hle, hCj⟩ := HC.out.at_ k hlt
      subst hA
      have hpl := joinOf_le hp
      have hmax := HM.out
      have hpa : All 256 p := HA.out p (List.mem_of_getElem? hp)
      have hall : All 256 (joinOf (ps.take k)) := joinOf_all fun q hq => HA.out q (List.mem_of_mem_take hq)
      have hnext := joinOf_take hp
      obtain ⟨J, hJ⟩ : ∃ J, J = joinOf (ps.take k) := ⟨_, rfl⟩
      rw [← hJ] at H hpl hall hnext
      obtain ⟨pl, hpl0⟩ : ∃ pl, pl = p.length := ⟨_, rfl⟩
      obtain ⟨jl, hjl⟩ : ∃ jl, jl = J.length := ⟨_, rfl⟩
      rw [← hpl0] at hcell hle hnext hpl
      rw [← hjl] at hpl
      have plm : pl ≤ 100000000000000 := by omega
      have jlm : jl + 8 + pl ≤ 100000000000000 := by omega
      have hCj' : C8 w Aj p.length p := hCj
      have h8 : ∀ W : World, Calls Tryd.prog 48 #[.int .u64 (pl : Int)] W fun e w' => ∃ v, e = .returned v ∧ Own w' W.heap.size v (eight pl) ∧ Below W.heap.size W w' := fun W => eight_any pl W (by omega)
      obtain ⟨E, hE⟩ : ∃ E, E = eight pl := ⟨_, rfl⟩
      have hEl : E.length = 8 := by rw [hE]; exact eight_len _
      have hEa : All 256 E := by rw [hE]; exact eight_all _
      rw [← hE] at h8 hnext
      have H8 := Lib.hid h8; have HE := Lib.hid hEl; have HCj := Lib.hid hCj'; have HP := Lib.hid hpl0; have HJ := Lib.hid hjl; have HNX := Lib.hid hnext
      have c0 : wr.cell? (ad.add k) = some (.slice Aj pl cj) := (hb.cell (World.block_lt_of_cell? w _ hcell)).trans hcell
      clear hCj hCj' h8 hE hEl hpl hp hpl0 hjl hmax hcell hJ hnext
      go_wp2_with (first
        | (go_at_call 48; (with_reducible refine (H8.out _).mono ?_); rintro e w5 ⟨v5, rfl, O5, hb5⟩; clear H8; (have hne5 := O5.lt; obtain ⟨A5, c5, rfl, hle5, hC5⟩ := O5.arg; have H5 := H.below hb5; have hb5' := hb.trans (hb5.mono hb.size); have BZ5 := BZ.below hb5 BZ.lt; rw [HE.out]))
        | (go_at_call 18
           refine ((write_c (w.heap.size + 1) 0 first J E A5 8 c5 _ first_len first_all rfl (by rw [← HJ.out, HE.out]; omega) H5 hall HE.out.symm (by rw [← HE.out]; exact hle5) hEa hC5
              (fun _ b o e => by subst e; have := hne5 b rfl; have := H.lt; omega) (HT.out.below hb5' h1) (by have := hb5'.size; omega) (by omega)).mono ?_); rintro e w6 ⟨rfl, H6, G6⟩
           clear H5
           have BZ6 := BZ5.grown G6 (by simp)
           have hb6 : Below w.heap.size w w6 := hb5'.grown G6 hb5'.size (fun k hk => by injection hk; omega))
        | (go_at_call 18
           refine ((write_c (w.heap.size + 1) 0 first (J ++ E) p Aj pl cj _ first_len first_all rfl (by rw [List.length_append, ← HJ.out, HE.out, ← HP.out]; omega) H6 (hall.app hEa) HP.out hle hpa (HCj.out.below hb6)
              (fun h0 b o e => by obtain ⟨b', o', e', hlt', _⟩ := HCj.out.at_ h0; rw [e'] at e; injection e with e; injection e with e; omega) (HT.out.below hb6 h1) (by have := hb6.size; omega) (by omega)).mono ?_); rintro e w7 ⟨rfl, H7, G7⟩
           have BZ7 := BZ6.grown G7 (by simp)
           have hb7 : Below w.heap.size w w7 := hb6.grown G7 hb6.size (fun k hk => by injection hk; omega)))
      go_roundw
      case rel => exact ⟨k + 1, by omega, rfl, by rw [HNX.out]; exact H7, hb7, BZ7⟩
      case measure => simp [intOf]; omega
    · have hkn : k = n := by omega
      have ek : joinOf (ps.take k) = joinOf ps := by rw [hkn, HN.out, List.take_length]
      rw [ek] at H
      obtain ⟨J, hJ⟩ : ∃ J, J = joinOf ps := ⟨_, rfl⟩
      have hJa : All 256 J := by rw [hJ]; exact joinOf_all HA.out
      have hJl : J.length ≤ 100000000000000 := by rw [hJ]; exact HM.out
      have hd : total first 0 J = D := by rw [hJ]; exact HD.out.symm
      rw [← hJ] at H
      have Hd := Lib.hid hd
      have t1 : decide (k < n) = false := decide_eq_false hlt
      clear hJ hd ek hkn
      go_wp2_with (first
        | (go_at_call 19
           refine ((hsum_any (w.heap.size + 1) 0 first J _ first_len first_all rfl (by omega) H hJa (HT.out.below hb h1) (by have := hb.size; omega)).mono ?_); rintro e w3 ⟨he3, hb3⟩
           rw [Hd.out] at he3
           subst he3
           have BZ3 : Blk w3 w.heap.size 24 ([] ++ (List.replicate 32 0).map v8 ++ []).toArray := BZ.below hb3 BZ.lt
           have hb3' := hb.trans (hb3.mono hb.size))
        | (refine wpl_store rfl 24 _ _ rfl w.heap.size 0 rfl 24 [] ((List.replicate 32 0).map v8) [] (D.map v8) rfl BZ3 rfl (by rw [List.length_map, HDl.out]; rfl) (by rw [List.length_map, HDl.out]; kernel_rfl) (v8_one D) ?_; intro w9 B9 O9))
      exact bodyPost_ret (results_cell_row rfl _ _ w.heap.size 24 (D.map v8).toArray (0, 0) _ rfl (by have h9 := B9; rw [List.nil_append, List.append_nil] at h9; exact h9) Tryd.underlying24 rfl (by rw [show (D.map v8).toArray.size = 32 by simp [HDl.out]]; kernel_rfl)) rfl ⟨rfl, O9.below hb3' (Nat.le_refl _)⟩
end Go.Proofs.YtfedlgcpgfofjaaDoor.Sha
