/-
  wicketlaw09.draw at Feed, and at any act: what the call does, walked.
-/
import Derived.Test.YtaeipffenlkjpaaCAct
namespace Go.Proofs.Ytaeipffenlkjpaa.Sha
open Go.RowKit Go.Proofs.YtaeipffenlkjpaaW.PrintWords Go.Proofs.Ytaeipffenlkjpaa.PAll Go.Proofs.Ytaeipffenlkjpaa.Plain Go.Proofs.Ytaeipffenlkjpaa.Cod
set_option linter.unusedVariables false
set_option linter.unusedSimpArgs false
theorem C8.far {S : Nat → Prop} {w w' : World} {A : Option Addr} {n : Nat} {p : List Nat} (h : C8 w A n p) (F : Far S w w') (hA : 0 < n → ∀ ad, A = some ad → ¬ S ad.block) : C8 w' A n p := by
  rcases Nat.eq_zero_or_pos n with h0 | h0
  · subst h0
    have e : p = [] := List.eq_nil_of_length_eq_zero h.len
    subst e
    exact C8.nil w' A
  · obtain ⟨b, o, e, hlt, hbs⟩ := h.at_ h0
    have h1 := h.len
    subst e
    have h9 := h.2.1
    have := C8.of_Bs (hbs.kept (F.at_ hlt (hA h0 _ rfl))) (by omega)
    rwa [h1] at this
theorem conv_C8 {w : World} {A : Option Addr} {n c : Nat} {p : List Nat} (h : C8 w A n p) : (convert 31 9 (.slice A n c)).run Try.prog w = .ok (.string (txt p)) w :=
  Kd.C_string (P := Try.prog) (w := w) (A := A) (c := c) Try.underlying31 Try.underlying5 Try.underlying9 (show Kd.C (Kd.int .u8) w A n (toI p) from h)
theorem txt_tail (p : List Nat) (hp : All 256 p) : ((txt (p ++ [9, 8])).toList == (txt p ++ (⟨#[9, 8]⟩ : ByteArray)).toList) = true := by
  rw [toList_beq, decide_eq_true_eq, txt_app p [9, 8] hp (all_dec (by decide))]
  rfl
set_option maxRecDepth 100000 in
set_option maxHeartbeats 4000000 in
theorem draw_feed (f : Nat → Nat) (i j g h : Nat) (L P : List Nat) (AP : Option Addr) (n c : Nat) (w : World) (hij : i ≠ j) (hB : Both w f i j g h L) (hn : n = P.length) (hn2 : n ≤ 100000000000000) (hc : n ≤ c) (hP : All 256 P) (hC : C8 w AP P.length P)
    (hA : 0 < n → ∀ ad, AP = some ad → f ad.block ≠ i ∧ f ad.block ≠ j) :
    Calls Try.prog 27 #[.pointer (some ⟨g, 0, none⟩), .pointer (some ⟨h, 0, none⟩), .agg #[.int .i64 3, .slice AP n c]] w (Drew w f i j g h (fed L P)) := by
  obtain ⟨S, R⟩ := hB
  have hgi := S.mark
  have hhj : f h = j := R.1
  have hgl := S.lt
  have hhl := R.lt
  have F0 := Far.alloc (fun _ => False) w (.cells #[.int .i64 3, .slice AP n c] 46)
  have HB0 : Hid (Blk (w.alloc (.cells #[.int .i64 3, .slice AP n c] 46)) w.heap.size 46 #[.int .i64 3, .slice AP n c]) := Blk.new w _ _
  have HC : Hid (C8 (w.alloc (.cells #[.int .i64 3, .slice AP n c] 46)) AP n P) := by rw [hn]; exact hC.below ((Below.refl _ _).alloc (Nat.le_refl _) _)
  have hz0 : (w.alloc (.cells #[.int .i64 3, .slice AP n c] 46)).heap.size = w.heap.size + 1 := by simp
  have hAl : 0 < n → ∀ ad, AP = some ad → ad.block < w.heap.size := fun h0 ad e => by
    obtain ⟨b, o, e2, hb, _⟩ := hC.at_ (by omega)
    rw [e] at e2
    injection e2 with e2
    rw [e2]
    exact hb
  obtain ⟨z, hz⟩ : ∃ z, z = i + j + 1 := ⟨_, rfl⟩
  have hzi : z ≠ i := by omega
  have hzj : z ≠ j := by omega
  obtain ⟨f1, hf1⟩ : ∃ f1, f1 = col f w.heap.size z := ⟨_, rfl⟩
  have e1 : Ext w f f1 := by rw [hf1]; exact col_ext _ _ _
  have hnew : ∀ k, w.heap.size ≤ k → f1 k = z := fun k hk => by rw [hf1]; exact col_new f z hk
  have S0 : Src (w.alloc (.cells #[.int .i64 3, .slice AP n c] 46)) f1 i g L := S.far e1 F0 (fun _ _ _ h => h)
  have R0 : RSrc (w.alloc (.cells #[.int .i64 3, .slice AP n c] 46)) f1 j h L := R.far e1 F0 (fun _ _ _ h => h)
  have c1 : (w.alloc (.cells #[.int .i64 3, .slice AP n c] 46)).cell? ⟨w.heap.size, 1, none⟩ = some (.slice AP n c) := HB0.out.cell 1
  have HS := Lib.hid S0; have HR := Lib.hid R0; have HF := Lib.hid F0; have HG := Lib.hid hgi; have HJ := Lib.hid hhj; have HP := Lib.hid hP; have HN := Lib.hid hn; have HA := Lib.hid hA; have HAL := Lib.hid hAl; have HZ := Lib.hid hz0; have HE1 := Lib.hid e1; have HNW := Lib.hid hnew; have HIJ := Lib.hid hij; have HZI := Lib.hid hzi; have HZJ := Lib.hid hzj
  clear S R S0 R0 F0 hgi hhj hP hn hA hAl hz0 e1 hnew hij hzi hzj hC hf1 hz
  go_enter Try.func27, Try.ntmps27
  go_wp2_with (first
    | (at_builtin; (refine wpl_append rfl _ _ _ rfl info_byte Try.underlying31 (w.heap.size + 1) (.slice (some ⟨w.heap.size + 1, 0, none⟩) 0 0) [] rfl (Own.nil_alloc _ _ _ HZ.out.symm (Nat.le_refl _)) AP c n P rfl HN.out (by rw [← HN.out]; exact HC.out.below ((Below.refl _ _).alloc (Nat.le_refl _) _)) (by rw [← HN.out]; simp; omega) (by simp) ?_); intro v1 w1 O1 G1 _
       have T1 : True := trivial
       have hb1 : Below (w.heap.size + 1) (w.alloc (.cells #[.int .i64 3, .slice AP n c] 46)) w1 := Below.grown ((Below.refl _ _).alloc (by rw [HZ.out]; exact Nat.le_refl _) _) G1 (by simp) (fun k e => by have e' : some (w.heap.size + 1) = some k := e; injection e' with e'; omega)
       clear G1)
    | (at_builtin; clear T1; go_loud (refine wpl_append rfl _ _ _ rfl info_byte Try.underlying31 (w.heap.size + 1) _ ([] ++ P) rfl (O1.alloc _) _ _ _ [9, 8] rfl rfl (C8.lit _ [9, 8] _ _ _ rfl rfl (by decide)) (by rw [List.nil_append, ← HN.out]; simp; omega) (by have := hb1.size; rw [HZ.out] at this; simp; omega) ?_); intro v2 w2 O2 G2 _
       have hb2 : Below (w.heap.size + 1) (w.alloc (.cells #[.int .i64 3, .slice AP n c] 46)) w2 := Below.grown (hb1.alloc (by have := hb1.size; rw [HZ.out] at this; exact this) _) G2 (by have := hb1.size; rw [HZ.out] at this; simp; omega) (fun k e => own_base O1 k e)
       have hb2w : Below (w.alloc (.cells #[.int .i64 3, .slice AP n c] 46)).heap.size (w.alloc (.cells #[.int .i64 3, .slice AP n c] 46)) w2 := by rw [HZ.out]; exact hb2
       have Bx2 : Blk w2 w.heap.size 46 #[.int .i64 3, .slice AP n c] := HB0.out.below hb2 (by omega)
       have cx2 : w2.cell? ⟨w.heap.size, 1, none⟩ = some (.slice AP n c) := Bx2.cell 1
       have hl2 : (([] ++ P) ++ [9, 8]).length = n + 2 := by rw [List.nil_append, List.length_append, ← HN.out]; rfl
       obtain ⟨pb, c2, e2, ho2⟩ := O2.pos (by rw [hl2]; omega)
       rw [hl2] at e2
       rw [List.nil_append] at O2
       subst e2
       have hpb : w.heap.size + 1 ≤ pb := own_base O2 pb rfl
       have hpb2 : pb < w2.heap.size := own_lt O2 pb rfl
       have hnc2 : n + 2 ≤ c2 := O2.c8.2.1
       have hCp2 : C8 w2 (some ⟨pb, 0, none⟩) P.length P := by
         have h := (O2.take n (by omega)).c8.2.2
         rwa [HN.out, List.take_left' rfl] at h
       have S2 : Src w2 f1 i g L := HS.out.keep (Ext.refl _ _) hb2.size (fun k hk _ => hb2w.block k hk)
       have R2 : RSrc w2 f1 j h L := HR.out.keep (Ext.refl _ _) (fun k hk _ => hb2w.block k hk)
       have C2 := HC.out.below hb2w
       have h2s : w.heap.size + 1 ≤ w2.heap.size := by have := hb2.size; rw [HZ.out] at this; exact this
       have HO2 := Lib.hid O2; have HCp2 := Lib.hid hCp2; have HS2 := Lib.hid S2; have HR2 := Lib.hid R2; have HC2 := Lib.hid C2; have HBx2 := Lib.hid Bx2; have HB2 := Lib.hid hb2
       have j1 : (n : Int) ≤ (c2 : Int) := by omega
       clear O1 O2 G2 hb1 hb2 hb2w Bx2 hl2 ho2 hCp2 S2 R2 C2)
    | (go_at_call 28; (refine (feed_any f1 i g L P _ n c2 w2 HS2.out HN.out (by omega) HP.out HCp2.out).mono ?_); rintro e w3 ⟨rfl, S3, F3⟩
       have hgf : f1 g = i := (HE1.out g hgl).trans HG.out
       have R3 := HR2.out.far (f' := col f1 w2.heap.size i) (col_ext _ _ _) F3 (fun k _ hk e => HIJ.out (by rw [← hgf, ← e, hk]))
       have O3 : Own w3 (w.heap.size + 1) (.slice (some ⟨pb, 0, none⟩) (n + 2) c2) (P ++ [9, 8]) := own_move HO2.out (fun k hk => F3.at_ (own_lt HO2.out k hk) (by have := own_base HO2.out k hk; omega))
       have Bx3 : Blk w3 w.heap.size 46 #[.int .i64 3, .slice AP n c] := (F3.at_ (by omega) (by omega)).trans HBx2.out
       have cx3 : w3.cell? ⟨w.heap.size, 1, none⟩ = some (.slice AP n c) := Bx3.cell 1
       have C3 : C8 w3 AP n P := HC2.out.far F3 (fun h0 ad e hk => (HA.out h0 ad e).1 (by rw [hk]; exact HG.out))
       have hf3 : ∀ k, k < w.heap.size → col f1 w2.heap.size i k = f k := fun k hk => (col_ext w2 f1 i k (by omega)).trans (HE1.out k hk)
       have hf3z : ∀ k, w.heap.size ≤ k → k < w2.heap.size → col f1 w2.heap.size i k = z := fun k hk hk2 => (col_ext w2 f1 i k hk2).trans (HNW.out k hk)
       have hA3 : 0 < n → ∀ ad, AP = some ad → col f1 w2.heap.size i ad.block ≠ j := fun h0 ad e => by rw [hf3 _ (HAL.out h0 ad e)]; exact (HA.out h0 ad e).2
       have HO3 := Lib.hid O3; have HS3 := Lib.hid S3; have HR3 := Lib.hid R3; have HC3 := Lib.hid C3; have HBx3 := Lib.hid Bx3; have HF3 := Lib.hid F3; have HH3 := Lib.hid hf3; have HH3z := Lib.hid hf3z; have HA3 := Lib.hid hA3
       have h3s := F3.size
       clear R3 O3 Bx3 C3 hf3 hf3z hA3 S3 F3 hgf)
    | (go_at_call 36; (refine (rfeed_any _ j h L P AP n c w3 HR3.out HN.out hc (by omega) HP.out (by rw [← HN.out]; exact HC3.out) HA3.out).mono ?_); rintro e w4 ⟨rfl, R4, F4⟩
       have S4 := HS3.out.far (f' := col (col f1 w2.heap.size i) w3.heap.size j) (col_ext _ _ _) F4 (fun k _ hk e => HIJ.out (by rw [← hk, e]))
       have O4 : Own w4 (w.heap.size + 1) (.slice (some ⟨pb, 0, none⟩) (n + 2) c2) (P ++ [9, 8]) := own_move HO3.out (fun k hk => F4.at_ (own_lt HO3.out k hk) (fun e => HZJ.out (by rw [← HH3z.out k (by have := own_base HO3.out k hk; omega) (own_lt HO2.out k hk)]; exact e)))
       have Bx4 : Blk w4 w.heap.size 46 #[.int .i64 3, .slice AP n c] := (F4.at_ (by omega) (fun e => HZJ.out (by rw [← HH3z.out w.heap.size (Nat.le_refl _) (by omega)]; exact e))).trans HBx3.out
       have cx4 : w4.cell? ⟨w.heap.size, 1, none⟩ = some (.slice AP n c) := Bx4.cell 1
       have C4 : C8 w4 AP n P := HC3.out.far F4 HA3.out
       obtain ⟨t2, ht2⟩ : ∃ t, t = txt (P ++ [9, 8]) := ⟨_, rfl⟩
       obtain ⟨t1, ht1⟩ : ∃ t, t = txt P := ⟨_, rfl⟩
       have hcv1 : (convert 31 9 (.slice (some ⟨pb, 0, none⟩) (n + 2) c2)).run Try.prog w4 = .ok (.string t2) w4 := by
         rw [ht2]
         have h := O4.c8
         exact conv_C8 (by have h2 := h.2.2; rwa [← h.1] at h2)
       have hcv2 : (convert 31 9 (.slice AP n c)).run Try.prog w4 = .ok (.string t1) w4 := by rw [ht1]; exact conv_C8 C4
       have heq : (t2.toList == (t1 ++ (⟨#[9, 8]⟩ : ByteArray)).toList) = true := by rw [ht1, ht2]; exact txt_tail P HP.out
       have hts : t1.size ≤ 140737488355328 := by rw [ht1, txt_size, ← HN.out]; omega
       have HO4 := Lib.hid O4; have HS4 := Lib.hid S4; have HR4 := Lib.hid R4; have HF4 := Lib.hid F4
       have h4s := F4.size
       clear S4 O4 Bx4 C4 ht1 ht2 R4 F4 cx2 cx3))
  obtain ⟨f4, hf4⟩ : ∃ f4, f4 = col (col f1 w2.heap.size i) w3.heap.size j := ⟨_, rfl⟩
  rw [← hf4] at HS4 HR4
  have h4lo : ∀ k, k < w.heap.size → f4 k = f k := fun k hk => by rw [hf4, col_ext w3 _ j k (by omega)]; exact HH3.out k hk
  have h4pb : f4 pb = z := by rw [hf4, col_ext w3 _ j pb (by omega)]; exact HH3z.out pb (by omega) hpb2
  have Fw : Far (fun k => f k = i ∨ f k = j) w w4 := by
    have Fa : Far (fun k => f k = i ∨ f k = j) w w2 := (Far.alloc _ w (.cells #[.int .i64 3, .slice AP n c] 46)).trans (Far.of_below (S := fun _ => False) (by rw [HZ.out]; exact HB2.out)) (fun _ _ h => h.elim)
    refine (Fa.trans HF3.out (fun k _ e => .inl (by rw [e]; exact HG.out))).trans HF4.out (fun k hk e => .inr ?_)
    rw [← HH3.out k hk]
    exact e
  have HLO := Lib.hid h4lo; have HPB := Lib.hid h4pb; have HFW := Lib.hid Fw
  have i0 : (0 : Int) ≤ (n : Int) := by omega
  clear hf4 h4lo h4pb Fw hcv1 hcv2 heq hts cx4 h2s h3s h4s
  go_loopw [13] (fun v13 ws => ∃ k : Nat, k ≤ n + 2 ∧ v13 = .int .i64 (k : Int) ∧ (∃ ps : List Nat, ps.length = n + 2 ∧ Own ws (w.heap.size + 1) (.slice (some ⟨pb, 0, none⟩) (n + 2) c2) ps) ∧ Both ws f4 i j g h (fed L P) ∧ Far (fun k => f k = i ∨ f k = j) w ws) (fun v13 _ => n + 2 - (intOf v13).toNat)
  case atStart => exact ⟨0, by omega, rfl, ⟨_, by rw [List.length_append, ← HN.out]; rfl, HO4.out⟩, ⟨HS4.out, HR4.out⟩, HFW.out⟩
  case round =>
    obtain ⟨k, hk, rfl, ⟨ps, hps, O⟩, ⟨S, R⟩, F⟩ := hrel
    by_cases hlt : k < n + 2
    · obtain ⟨x, hx⟩ : ∃ x, ps[k]? = some x := ⟨_, List.getElem?_eq_getElem (by omega)⟩
      have g1 : wr.cell? ⟨pb, k, none⟩ = some (.int .u8 (x : Int)) := by
        have h9 := O.cellAt hx
        rwa [Nat.zero_add] at h9
      have fz1 := O.blk_frozen k
      have k0 : (k : Int) < (n : Int) + 2 := by omega
      have k1 : (0 : Int) ≤ (k : Int) := by omega
      have HPS := Lib.hid hps; have HO := Lib.hid O; have HS := Lib.hid S; have HR := Lib.hid R; have HF := Lib.hid F
      clear hps O S R F hx
      go_wp2
      go_roundw
      case rel =>
        have Fs := Far.set_ wr pb k (.int .u8 ((238 : Nat) : Int))
        refine ⟨k + 1, by omega, by go_num, ⟨_, by rw [List.length_set]; exact HPS.out, HO.out.set_ k 238⟩, ⟨HS.out.far (Ext.refl _ _) Fs (fun q _ hq e => HZI.out (by rw [← HPB.out, ← e, hq])), HR.out.far (Ext.refl _ _) Fs (fun q _ hq e => HZJ.out (by rw [← HPB.out, ← e, hq]))⟩, HF.out.trans Fs (fun q hq e => by omega)⟩
      case measure => simp [intOf]; omega
    · have k0 : decide ((k : Int) < (n : Int) + 2) = false := decide_eq_false (by omega)
      have HS := Lib.hid S; have HR := Lib.hid R; have HF := Lib.hid F
      clear hps O S R F
      go_wp2
      go_ret
      exact ⟨rfl, ⟨f4, fun q hq => HLO.out q hq, HS.out, HR.out⟩, HF.out⟩
/-- One call on both sources. -/
theorem draw_any (f : Nat → Nat) (i j g h : Nat) (L P : List Nat) (K : Int) (AP : Option Addr) (n c : Nat) (w : World) (hij : i ≠ j) (hB : Both w f i j g h L) (hn : n = P.length) (hn2 : K = 3 → n ≤ 100000000000000) (hc : n ≤ c) (hP : All 256 P) (hC : C8 w AP P.length P)
    (hA : 0 < n → ∀ ad, AP = some ad → f ad.block ≠ i ∧ f ad.block ≠ j) :
    Calls Try.prog 27 #[.pointer (some ⟨g, 0, none⟩), .pointer (some ⟨h, 0, none⟩), .agg #[.int .i64 K, .slice AP n c]] w (Drew w f i j g h (nextL K P L)) := by
  by_cases h1 : K = 1
  · subst h1; exact draw_byte f i j g h L _ w hij hB
  by_cases h2 : K = 2
  · subst h2; exact draw_left f i j g h L _ w hij hB
  by_cases h3 : K = 3
  · subst h3; exact draw_feed f i j g h L P AP n c w hij hB hn (hn2 rfl) hc hP hC hA
  by_cases h4 : K = 4
  · subst h4; exact draw_device f i j g h L _ w hij hB
  by_cases h5 : K = 5
  · subst h5; exact draw_auth f i j g h L _ w hij hB
  by_cases h6 : K = 6
  · subst h6; exact draw_user f i j g h L _ w hij hB
  have e : nextL K P L = L := by
    unfold nextL
    rw [if_neg h1, if_neg h3, if_neg h4, if_neg h5, if_neg h6]
  rw [e]
  refine draw_none f i j g h L K _ w (fun k hk1 hk2 => ?_) hB
  rw [Bool.eq_false_iff]
  intro e
  have := eq_of_beq e
  omega
end Go.Proofs.Ytaeipffenlkjpaa.Sha
