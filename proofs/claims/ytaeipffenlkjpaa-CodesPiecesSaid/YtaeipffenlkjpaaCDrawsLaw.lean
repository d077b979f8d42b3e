/-
  CodesDraws: what the call does, walked; as the row hands it on.
-/
import Derived.Test.YtaeipffenlkjpaaCFeed
namespace Go.Proofs.Ytaeipffenlkjpaa.Sha
open Go.RowKit Go.Proofs.YtaeipffenlkjpaaW.PrintWords Go.Proofs.Ytaeipffenlkjpaa.PAll Go.Proofs.Ytaeipffenlkjpaa.Plain Go.Proofs.Ytaeipffenlkjpaa.Cod
set_option linter.unusedVariables false
set_option linter.unusedSimpArgs false
structure S46 where
  f0 : Int
  f1 : List Int
def k46 : Kd S46 := Kd.iso (Kd.pair (Kd.int .i64) (Kd.slice 5 (Kd.int .u8))) (fun x : S46 => (x.f0, x.f1))
theorem act_open {w : World} {x : S46} {cs : List Value} (h : k46.K w x cs) : ∃ A1 c1, cs = [.int .i64 x.f0, .slice A1 x.f1.length c1] ∧ x.f1.length ≤ c1 ∧ (Kd.int .u8).C w A1 x.f1.length x.f1 := by
  obtain ⟨_, _, rfl, rfl, ⟨A1, c1, rfl, l1, g1⟩⟩ := h
  exact ⟨A1, c1, rfl, l1, g1⟩
theorem act_at {w : World} {A : Option Addr} {n : Nat} {xs : List S46} (h : Kd.C k46 w A n xs) (i : Nat) (hi : i < n) (hx : i < xs.length) (hok : ∀ y ∈ xs, ∀ b ∈ y.f1, (Lit.int .u8 b).wf = true) : ∃ b o A' c', A = some ⟨b, o, none⟩ ∧ b < w.heap.size ∧ w.cell? ⟨b, o + i * 2, none⟩ = some (.int .i64 xs[i].f0) ∧
    w.cell? ⟨b, o + (i * 2 + 1), none⟩ = some (.slice A' xs[i].f1.length c') ∧ xs[i].f1.length ≤ c' ∧ C8 w A' (toN xs[i].f1).length (toN xs[i].f1) ∧ (0 < xs[i].f1.length → ∀ ad, A' = some ad → ad.block < w.heap.size) ∧ All 256 (toN xs[i].f1) := by
  obtain ⟨ad, hA, hc⟩ := h.2.2 (by omega)
  obtain ⟨cs, hl, hK, hcs⟩ := hc i xs[i] (List.getElem?_eq_getElem hx)
  obtain ⟨A', c', rfl, hle, hC⟩ := act_open hK
  have h0 := hcs 0 _ rfl
  have h1 := hcs 1 _ rfl
  have hs : ad.spot = none := by
    obtain ⟨cs0, _, hK0, hcs0⟩ := hc 0 (xs[0]'(by omega)) (List.getElem?_eq_getElem (by omega))
    obtain ⟨_, _, rfl, _, _⟩ := act_open hK0
    have h9 := hcs0 0 _ rfl
    rw [Nat.zero_mul] at h9
    exact whole_addr (a := ad) h9
  obtain ⟨b, o, sp⟩ := ad
  obtain rfl : sp = none := hs
  rw [Addr.add_mid] at h0 h1
  obtain ⟨k1, k2⟩ := bytes_of_ok (hok _ (List.getElem_mem hx))
  have h8 : C8 w A' (toN xs[i].f1).length (toN xs[i].f1) := by show Kd.C _ _ _ _ _; rw [k1, toN_len]; exact hC
  refine ⟨b, o, A', c', hA, block_lt_of_cell h0, h0, h1, hle, h8, fun h9 ad e => ?_, k2⟩
  obtain ⟨b', o', e2, hb, _⟩ := h8.at_ (by rw [toN_len]; exact h9)
  rw [e] at e2
  injection e2 with e2
  rw [e2]
  exact hb
set_option maxRecDepth 100000 in
set_option maxHeartbeats 4000000 in
theorem draws_law (p : List Nat) (acts : List S46) (A0 : Option Addr) (n0 c0 : Nat) (A1 : Option Addr) (n1 c1 : Nat) (W : World) (hn0 : n0 = p.length) (hn1 : n1 = acts.length) (hl0 : n0 ≤ 100000000000000) (hl1 : n1 ≤ 100000000000000) (hp : All 256 p) (hc0 : n0 ≤ c0) (hc1 : n1 ≤ c1) (hC0 : C8 W A0 p.length p)
    (hC1 : Kd.C k46 W A1 n1 acts) (hok : ∀ y ∈ acts, ∀ b ∈ y.f1, (Lit.int .u8 b).wf = true) (hle : ∀ y ∈ acts, y.f1.length ≤ 100000000000000) :
    Calls Try.prog 8 #[.slice A0 n0 c0, .slice A1 n1 c1] W fun e w' => e = .returned (.bool true) ∧ Below W.heap.size W w' := by
  have hns : ∀ (V : World) (A : Option Addr) (c : Nat), C8 V A p.length p → n0 ≤ c → Calls Try.prog 18 #[.slice A n0 c] V fun e w' => ∃ g, e = .returned (.pointer (some ⟨g, 0, none⟩)) ∧ V.heap.size ≤ g ∧ Src w' (col (fun _ => 0) V.heap.size 1) 1 g (fed [] p) ∧ Below V.heap.size V w' := fun V A c hC hc => newSource_any (fun _ => 0) 1 p A n0 c V hn0 hc hp hC
  have hrn : ∀ (V : World) (f : Nat → Nat), Below W.heap.size W V → Calls Try.prog 26 #[.slice A0 n0 c0] V fun e w' => e = .returned (.pointer (some ⟨V.heap.size, 0, none⟩)) ∧ RSrc w' (col f V.heap.size 2) 2 V.heap.size (fed [] p) ∧ Below V.heap.size V w' := fun V f hb => rnew_any f 2 p A0 n0 c0 V hn0 hc0 (by omega) hp (hC0.below hb)
  have HNS := Lib.hid hns; have HRN := Lib.hid hrn; have HN0 := Lib.hid hn0; have HN1 := Lib.hid hn1; have HP := Lib.hid hp; have HC0 := Lib.hid hC0; have HC1 := Lib.hid hC1; have HOK := Lib.hid hok; have HLE := Lib.hid hle
  obtain ⟨t2, ht2⟩ : ∃ t, t = txt (p ++ [9, 8]) := ⟨_, rfl⟩
  obtain ⟨t1, ht1⟩ : ∃ t, t = txt p := ⟨_, rfl⟩
  have heq : (t2.toList == (t1 ++ (⟨#[9, 8]⟩ : ByteArray)).toList) = true := by rw [ht1, ht2]; exact txt_tail p hp
  have hts : t1.size ≤ 140737488355328 := by rw [ht1, txt_size, ← hn0]; omega
  have HT1 := Lib.hid ht1; have HT2 := Lib.hid ht2
  have i0 : (0 : Int) ≤ (n0 : Int) := by omega
  clear hns hrn hn0 hn1 hp hC0 hC1 hok hle ht1 ht2
  go_enter Try.func8, Try.ntmps8
  go_wp2_with (first
    | (at_builtin; (refine wpl_append rfl _ _ _ rfl info_byte Try.underlying31 W.heap.size (.slice (some ⟨W.heap.size, 0, none⟩) 0 0) [] rfl (Own.nil_alloc _ _ _ rfl (Nat.le_refl _)) A0 c0 n0 p rfl HN0.out (HC0.out.below ((Below.refl _ _).alloc (Nat.le_refl _) _)) (by rw [← HN0.out]; simp; omega) (by simp) ?_); intro v1 w1 O1 G1 _
       have hb1 : Below W.heap.size W w1 := Below.grown ((Below.refl _ _).alloc (Nat.le_refl _) _) G1 (by simp) (fun k e => by have e' : some W.heap.size = some k := e; injection e' with e'; omega)
       clear G1)
    | (at_builtin; go_loud (refine wpl_append rfl _ _ _ rfl info_byte Try.underlying31 W.heap.size _ ([] ++ p) rfl (O1.alloc _) _ _ _ [9, 8] rfl rfl (C8.lit _ [9, 8] _ _ _ rfl rfl (by decide)) (by rw [List.nil_append, ← HN0.out]; simp; omega) (by have := hb1.size; simp; omega) ?_); intro v2 w2 O2 G2 _
       have hb2 : Below W.heap.size W w2 := Below.grown (hb1.alloc hb1.size _) G2 (by have := hb1.size; simp; omega) (fun k e => own_base O1 k e)
       have hl2 : (([] ++ p) ++ [9, 8]).length = n0 + 2 := by rw [List.nil_append, List.length_append, ← HN0.out]; rfl
       obtain ⟨pb, c2, e2, ho2⟩ := O2.pos (by rw [hl2]; omega)
       rw [hl2] at e2
       rw [List.nil_append] at O2
       subst e2
       have hpb : W.heap.size ≤ pb := own_base O2 pb rfl
       have hpb2 : pb < w2.heap.size := own_lt O2 pb rfl
       have hnc2 : n0 + 2 ≤ c2 := O2.c8.2.1
       have hCp2 : C8 w2 (some ⟨pb, 0, none⟩) p.length p := by
         have h := (O2.take n0 (by omega)).c8.2.2
         rwa [HN0.out, List.take_left' rfl] at h
       have h2s : W.heap.size ≤ w2.heap.size := hb2.size
       have HO2 := Lib.hid O2; have HCp2 := Lib.hid hCp2
       have j1 : (n0 : Int) ≤ (c2 : Int) := by omega
       clear O1 O2 G2 hb1 hl2 ho2 hCp2)
    | (go_at_call 18; (refine (HNS.out w2 _ c2 HCp2.out (by omega)).mono ?_); rintro e w3 ⟨g, rfl, hg, S3, hb3⟩
       have hb3' := hb2.trans (hb3.mono h2s)
       have O3 := HO2.out.below hb3
       have h3s := hb3.size
       have HS3 := Lib.hid S3; have HO3 := Lib.hid O3
       clear S3 hb3 O3)
    | (go_at_call 26; (refine (HRN.out w3 (col (fun _ => 0) w2.heap.size 1) hb3').mono ?_); rintro e w4 ⟨rfl, R4, hb4⟩
       have hb4' := hb3'.trans (hb4.mono hb3'.size)
       have O4 := HO3.out.below hb4
       have S4 := HS3.out.far (f' := col (col (fun _ => 0) w2.heap.size 1) w3.heap.size 2) (col_ext _ _ _) (Far.of_below (S := fun _ => False) hb4) (fun _ _ _ h => h)
       have hcv1 : (convert 31 9 (.slice (some ⟨pb, 0, none⟩) (n0 + 2) c2)).run Try.prog w4 = .ok (.string t2) w4 := by
         rw [HT2.out]
         have h := O4.c8
         exact conv_C8 (by have h2 := h.2.2; rwa [← h.1] at h2)
       have hcv2 : (convert 31 9 (.slice A0 n0 c0)).run Try.prog w4 = .ok (.string t1) w4 := by
         rw [HT1.out]
         have h := HC0.out.below hb4'
         exact conv_C8 (by rwa [← HN0.out] at h)
       have h4s := hb4.size
       have HO4 := Lib.hid O4; have HS4 := Lib.hid S4; have HR4 := Lib.hid R4
       clear R4 O4 S4 hb4)
    | (go_at_call 12; (with_reducible refine (live_any _).mono ?_); rintro e w5 ⟨rfl, hb5⟩
       have hb5' := hb4'.trans (hb5.mono hb4'.size)
       have HO5 := Lib.hid (HO4.out.below hb5); have HS5 := Lib.hid (HS4.out.below hb5); have HR5 := Lib.hid (HR4.out.below hb5)
       have h5s := hb5.size
       clear hb5))
  obtain ⟨f5, hf5⟩ : ∃ f5, f5 = col (col (fun _ => 0) w2.heap.size 1) w3.heap.size 2 := ⟨_, rfl⟩
  rw [← hf5] at HS5 HR5
  have h5lo : ∀ k, k < w2.heap.size → f5 k = 0 := fun k hk => by rw [hf5, col_ext w3 _ 2 k (by omega), col_ext w2 _ 1 k hk]
  have HLO := Lib.hid h5lo
  obtain ⟨hr, hhr⟩ : ∃ hr, hr = w3.heap.size := ⟨_, rfl⟩
  rw [← hhr] at HR5
  rw [← hhr]
  clear hf5 h5lo hcv1 hcv2 heq hts hb2 hb3' hb4' HS3 HS4 HR4 HO2 HO3 HO4 HCp2 hhr HT1 HT2
  go_loopw [8] (fun v8 ws => ∃ k : Nat, k ≤ n0 + 2 ∧ v8 = .int .i64 (k : Int) ∧ (∃ ps : List Nat, ps.length = n0 + 2 ∧ Own ws W.heap.size (.slice (some ⟨pb, 0, none⟩) (n0 + 2) c2) ps) ∧ Both ws f5 1 2 g hr (fed [] p) ∧ Below W.heap.size W ws) (fun v8 _ => n0 + 2 - (intOf v8).toNat)
  case atStart => exact ⟨0, by omega, rfl, ⟨_, by rw [List.length_append, ← HN0.out]; rfl, HO5.out⟩, ⟨HS5.out, HR5.out⟩, hb5'⟩
  case round =>
    clear hb5'
    obtain ⟨k, hk, rfl, ⟨ps, hps, O⟩, ⟨S, R⟩, hb⟩ := hrel
    by_cases hlt : k < n0 + 2
    · obtain ⟨x, hx⟩ : ∃ x, ps[k]? = some x := ⟨_, List.getElem?_eq_getElem (by omega)⟩
      have g1 : wr.cell? ⟨pb, k, none⟩ = some (.int .u8 (x : Int)) := by
        have h9 := O.cellAt hx
        rwa [Nat.zero_add] at h9
      have fz1 := O.blk_frozen k
      have k0 : (k : Int) < (n0 : Int) + 2 := by omega
      have k1 : (0 : Int) ≤ (k : Int) := by omega
      have HPS := Lib.hid hps; have HO := Lib.hid O; have HS := Lib.hid S; have HR := Lib.hid R; have HB := Lib.hid hb
      clear hps O S R hb hx
      go_wp2
      go_roundw
      case rel =>
        have Fs := Far.set_ wr pb k (.int .u8 ((238 : Nat) : Int))
        have hp0 : f5 pb = 0 := HLO.out pb hpb2
        refine ⟨k + 1, by omega, by go_num, ⟨_, by rw [List.length_set]; exact HPS.out, HO.out.set_ k 238⟩, ⟨HS.out.far (Ext.refl _ _) Fs (fun q _ hq e => by rw [e, hp0] at hq; cases hq), HR.out.far (Ext.refl _ _) Fs (fun q _ hq e => by rw [e, hp0] at hq; cases hq)⟩, HB.out.setCell hpb _⟩
      case measure => simp [intOf]; omega
    · have k0 : decide ((k : Int) < (n0 : Int) + 2) = false := decide_eq_false (by omega)
      have HS := Lib.hid S; have HR := Lib.hid R; have HB := Lib.hid hb
      clear hps O S R hb HO5 HS5 HR5
      go_wp2
      obtain ⟨wo, rfl⟩ : ∃ wo : World, wo = wr := ⟨_, rfl⟩
      go_loopw [9] (fun v9 ws => ∃ k : Nat, k ≤ n1 ∧ v9 = .int .i64 (k : Int) ∧ (∃ f' L, (∀ q, q < W.heap.size → f' q = 0) ∧ Both ws f' 1 2 g hr L) ∧ Below W.heap.size W ws) (fun v9 _ => n1 - (intOf v9).toNat)
      case atStart => exact ⟨0, by omega, rfl, ⟨f5, _, fun q hq => HLO.out q (by omega), HS.out, HR.out⟩, HB.out⟩
      case round =>
        clear HS HR HB
        obtain ⟨m, hm, rfl, ⟨f', L, hlo, hBo⟩, hb⟩ := hrel
        by_cases hmlt : m < n1
        · have hx : m < acts.length := by have := HN1.out; omega
          obtain ⟨b, o, A', c', hA1, hbl, q0, q1, hle1, hC1, hAl, hal⟩ := act_at HC1.out m hmlt hx HOK.out
          replace q0 := (hb.cell (p := ⟨b, o + m * 2, none⟩) hbl).trans q0
          replace q1 := (hb.cell (p := ⟨b, o + (m * 2 + 1), none⟩) hbl).trans q1
          rw [← Nat.add_assoc] at q1
          replace hC1 := hC1.below hb
          have hlen := HLE.out _ (List.getElem_mem hx)
          obtain ⟨X, hX⟩ : ∃ X, X = acts[m] := ⟨_, rfl⟩
          rw [← hX] at q0 q1 hle1 hC1 hAl hal hlen
          obtain ⟨K, hK⟩ : ∃ K, K = X.f0 := ⟨_, rfl⟩
          obtain ⟨nn, hnn⟩ : ∃ nn, nn = X.f1.length := ⟨_, rfl⟩
          rw [← hK] at q0
          rw [← hnn] at q1 hle1 hAl hlen
          have hdraw := draw_any f' 1 2 g hr L (toN X.f1) K A' nn c' wr (by decide) hBo (by rw [toN_len]; exact hnn) (fun _ => hlen) hle1 hal hC1 (fun h0 ad e => by rw [hlo _ (hAl h0 ad e)]; exact ⟨by decide, by decide⟩)
          have HD := Lib.hid hdraw; have HLO2 := Lib.hid hlo; have HB := Lib.hid hb
          have k2 : (m : Int) < (n1 : Int) := by omega
          have k3 : (0 : Int) ≤ (m : Int) := by omega
          subst hA1
          clear hdraw hlo hb hBo hX hK hnn hC1 hAl hal hlen hx
          go_wp2_with (go_at_call 27; (with_reducible refine HD.out.mono ?_); rintro e w6 ⟨rfl, ⟨f6, he6, hB6⟩, F6⟩
                       have H6 := Lib.hid he6; have HB6 := Lib.hid hB6; have HF6 := Lib.hid F6
                       clear he6 hB6 F6)
          go_roundw
          case rel =>
            refine ⟨m + 1, by omega, by go_num, ⟨f6, _, fun q hq => ?_, HB6.out⟩, HB.out.trans (HF6.out.below (fun q hq e => ?_) HB.out.size)⟩
            · rw [H6.out q (Nat.lt_of_lt_of_le hq HB.out.size)]
              exact HLO2.out q hq
            · rw [HLO2.out q hq] at e
              rcases e with e | e <;> cases e
          case measure => simp [intOf]; omega
        · obtain ⟨S, R⟩ := hBo
          obtain ⟨n, hn⟩ : ∃ n, n = L.length := ⟨_, rfl⟩
          have h1 : ∀ V : World, Src V f' 1 g L → Calls Try.prog 22 #[.pointer (some ⟨g, 0, none⟩)] V fun e w' => e = .returned (.int .i64 (n : Int)) ∧ V = w' := fun V hV => by rw [hn]; exact left_any f' 1 g L V hV
          have hR := R
          obtain ⟨s1, s2, s3, vr, hBr, hO, hfr⟩ := hR
          obtain ⟨Av, cv, hve, hcv, hCv⟩ := hO.arg
          have g0 : wr.cell? ⟨hr, 0, none⟩ = some (.slice Av n cv) := by rw [hBr.cell 0, hve, hn]; rfl
          have HS := Lib.hid S; have HR := Lib.hid R; have H1 := Lib.hid h1; have HB := Lib.hid hb
          have k2 : ¬ (m : Int) < (n1 : Int) := by omega
          clear S R h1 hb s1 s2 s3 hBr hO hfr hve hcv hCv hn hlo
          go_wp2
          go_quiet ((go_at_call 22; exact quiet_left (H1.out _ HS.out)))
          go_wp2
          go_ret
          exact ⟨rfl, below_drewN HB.out _⟩
theorem le_sum {α : Type} (m : α → Nat) (l : List α) : ∀ x ∈ l, m x ≤ (l.map m).sum := by
  induction l with
  | nil => exact fun x hx => by cases hx
  | cons a l ih =>
    intro x hx
    rw [List.map_cons, List.sum_cons]
    rcases List.mem_cons.1 hx with rfl | hx
    · omega
    · have := ih x hx; omega
theorem len_sum {α : Type} (m : α → Nat) (hm : ∀ x, 1 ≤ m x) (l : List α) : l.length ≤ (l.map m).sum := by
  induction l with
  | nil => simp
  | cons a l ih =>
    rw [List.map_cons, List.sum_cons, List.length_cons]
    have := hm a
    omega
theorem row_draws (a0 : List Int) (a1 : List S46) (o0 : a0.length * 1 ≤ 140737488351232 ∧ ∀ y, y ∈ a0 → (Lit.int .u8 y).wf = true)
    (o1 : a1.length * 32 ≤ 140737488351232 ∧ ∀ y, y ∈ a1 → ((Lit.int .i64 y.f0).wf = true) ∧ (y.f1.length * 1 ≤ 140737488351232 ∧ ∀ z, z ∈ y.f1 → (Lit.int .u8 z).wf = true))
    (hbulk : ((a0.map fun y => 1).sum + 1) + ((a1.map fun y => (1 + ((y.f1.map fun y => 1).sum + 1) + 1)).sum + 1) ≤ 1048576) (W : World) (A0 : Option Addr) (c0 : Nat) (A1 : Option Addr) (c1 : Nat)
    (hr0 : Kd.C (Kd.int .u8) W A0 a0.length a0) (hc0 : a0.length ≤ c0) (hr1 : Kd.C k46 W A1 a1.length a1) (hc1 : a1.length ≤ c1) :
    Calls Try.prog 8 #[.slice A0 a0.length c0, .slice A1 a1.length c1] W fun e w' => e = .returned (.bool true) ∧ Below W.heap.size W w' := by
  obtain ⟨g1, g2⟩ := bytes_of_ok o0.2
  rw [sum_ones] at hbulk
  have hs := len_sum (fun y : S46 => 1 + ((y.f1.map fun y => 1).sum + 1) + 1) (fun x => by omega) a1
  refine draws_law (toN a0) a1 A0 _ c0 A1 _ c1 W (toN_len a0).symm rfl (by omega) (by omega) g2 hc0 hc1 (by show Kd.C _ _ _ _ _; rw [g1, toN_len]; exact hr0) hr1 (fun y hy b hb => (o1.2 y hy).2.2 b hb) (fun y hy => ?_)
  have h := le_sum (fun y : S46 => 1 + ((y.f1.map fun y => 1).sum + 1) + 1) a1 y hy
  simp only [sum_ones] at h hbulk
  omega
end Go.Proofs.Ytaeipffenlkjpaa.Sha
