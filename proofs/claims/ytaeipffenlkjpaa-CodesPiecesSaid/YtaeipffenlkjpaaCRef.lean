/-
  The reference's source: Feed, NewSource, Byte, bytes, Device, Auth, User: what the calls do, walked.
-/
import Derived.Test.YtaeipffenlkjpaaCDraw
import Derived.Deep.AppendLies
import Derived.Deep.RegionLaw
namespace Go.Proofs.Ytaeipffenlkjpaa.Sha
open Go.RowKit Go.Proofs.YtaeipffenlkjpaaW.PrintWords Go.Proofs.Ytaeipffenlkjpaa.PAll Go.Proofs.Ytaeipffenlkjpaa.Plain Go.Proofs.Ytaeipffenlkjpaa.Cod
set_option linter.unusedVariables false
set_option linter.unusedSimpArgs false
theorem wpr_if {P : Program} {w : World} {ops : Array Oper} {o : Oper} {a : Act} {Q : Exit → Act → World → Prop} {E : Prop} {K : Act → World → Prop} (hgd : Region.wanted o (yielded ops a.tmps) = true) (h : Oper.wp P o a w K Q) : if Region.wanted o (yielded ops a.tmps) = true then Oper.wp P o a w K Q else E := by
  rw [if_pos hgd]
  exact h
theorem Far.drew {S : Nat → Prop} {w w' : World} (h : Far S w w') : Far S w w'.drew := h
theorem Own.lies {w : World} {base g n c : Nat} {p : List Nat} (h : w.ownsRow base 5 1 (.slice (some ⟨g, 0, none⟩) n c) n (p.map v8)) : Own w base (.slice (some ⟨g, 0, none⟩) n c) p := by
  have hl : p.length = n := by
    have := h.1
    rw [List.length_map] at this
    omega
  unfold Own
  rw [hl]
  exact h
set_option maxRecDepth 100000 in
set_option maxHeartbeats 2000000 in
/-- One byte behind the others. -/
theorem rfeed_any (f : Nat → Nat) (i g : Nat) (L p : List Nat) (A : Option Addr) (n c : Nat) (w : World) (h : RSrc w f i g L) (hn : n = p.length) (hc : n ≤ c) (hn2 : n ≤ 140737488355328) (hp : All 256 p) (hC : C8 w A p.length p)
    (hA : 0 < n → ∀ ad, A = some ad → f ad.block ≠ i) :
    Calls Try.prog 36 #[.pointer (some ⟨g, 0, none⟩), .slice A n c] w fun e w' => e = .returned (.tuple #[]) ∧ RSrc w' (col f w.heap.size i) i g (fed L p) ∧ Far (fun k => f k = i) w w' := by
  have hgi := h.1
  have h0 : RSrc w (col f w.heap.size i) i g (L ++ p.take 0) := by rw [List.take_zero, List.append_nil]; exact h.keep (col_ext _ _ _) fun _ _ _ => rfl
  obtain ⟨lg, hlg⟩ : ∃ lg, lg = L.length := ⟨_, rfl⟩
  have hl : lg ≤ 4096 := by rw [hlg]; exact h.2.1
  have HL := Lib.hid hlg; have HP := Lib.hid hp; have HN := Lib.hid hn; have HC := Lib.hid hC; have HA := Lib.hid hA; have HGI := Lib.hid hgi
  obtain ⟨f', hf'⟩ : ∃ f', f' = col f w.heap.size i := ⟨_, rfl⟩
  rw [← hf'] at h0 ⊢
  have HF := Lib.hid hf'
  clear h hlg hn hC hA hf' hgi hp
  go_enter Try.func36, Try.ntmps36
  go_wp2
  go_loopw [4] (fun j wr => ∃ k : Nat, k ≤ n ∧ j = .int .i64 (k : Int) ∧ (0 < k → lg + k ≤ 4096) ∧ RSrc wr f' i g (L ++ p.take k) ∧ Far (fun k => f k = i) w wr) (fun j _ => n - (intOf j).toNat)
  case atStart => exact ⟨0, by omega, rfl, by omega, h0, Far.refl _ _⟩
  case round =>
    clear h0
    obtain ⟨k, hk, rfl, hlk, S0, F⟩ := hrel
    have hlt0 : (L ++ p.take k).length = lg + k := by rw [List.length_append, List.length_take, HL.out, ← HN.out]; omega
    obtain ⟨s1, s2, s3, v, hB, hO, hf⟩ := S0
    obtain ⟨Av, cv, hve, hcv, hCv⟩ := hO.arg
    obtain ⟨T, hT⟩ : ∃ T, T = L ++ p.take k := ⟨_, rfl⟩
    rw [← hT] at hlt0 s2 s3 hO hve hcv hCv
    rw [hlt0] at hve hcv hCv s2
    obtain ⟨tl, htl⟩ : ∃ tl, tl = lg + k := ⟨_, rfl⟩
    rw [← htl] at hlt0 hve hcv hCv s2
    have g0 : wr.cell? ⟨g, 0, none⟩ = some (.slice Av tl cv) := by rw [hB.cell 0, hve]; rfl
    by_cases hlt : k < n
    · by_cases hroom : tl < 4096
      · have d1 : decide ((tl : Int) < 4096) = true := decide_eq_true (by omega)
        obtain ⟨b, o, hAe, hb, hbs⟩ := HC.out.at_ (by rw [← HN.out]; omega)
        have hbi := HA.out (by omega) _ hAe
        obtain ⟨x, hx⟩ : ∃ x, x = p.getD k 0 := ⟨_, rfl⟩
        have gx : wr.cell? ⟨b, o + k, none⟩ = some (.int .u8 (x : Int)) := by
          rw [World.cell?_of_block (a := ⟨b, o + k, none⟩) (F.at_ hb hbi), hbs k (by rw [← HN.out]; exact hlt), hx]
          rfl
        subst hAe
        have hgl := hB.lt
        have fz := hB.frozen 0
        obtain ⟨i0, hi0, hz0, hz1, hz2⟩ := info_parts info_byte
        have hO' : Own wr 0 (.slice Av tl cv) T := by rw [← hve]; exact hO
        have hne : (Value.slice Av tl cv).ownBlock ≠ some g := by rw [← hve]; exact hO.ne hB (by decide)
        have HB := Lib.hid hB; have HO := Lib.hid hO'; have HX := Lib.hid hx; have HTT := Lib.hid hT; have HTL := Lib.hid htl; have HLT := Lib.hid hlt0; have S1 := Lib.hid s1; have S3 := Lib.hid s3; have HF2 := Lib.hid hf; have HBI := Lib.hid hbi; have HNE := Lib.hid hne; have HVE := Lib.hid hve
        have j0 : (0 : Int) ≤ (k : Int) := by omega
        have j1 : (k : Int) < (n : Int) := by omega
        clear hB hO hO' hx hT htl hlt0 s1 s3 hf hbi hne hve hbs hCv
        go_wp2
        go_region_law ((refine wpr_if (by rfl) ?_; refine wpr_append _ _ _ rfl info_byte Try.underlying31 0 (.slice Av tl cv) T rfl (own_move HO.out (fun q hq => Below.heap_alloc wr _ q (own_lt HO.out q hq))) _ _ _ [x] rfl rfl (C8.one_ _ _ _ rfl _ rfl) (by rw [HLT.out, List.length_singleton]; omega) (by simp) ?_; intro v1 w1 O1 G1 hv1; obtain ⟨A1, c1, e1, hl1, hC1⟩ := O1.arg; subst e1; have gb := G1.block g (Nat.lt_of_lt_of_le hgl (by simp)) (fun e => HNE.out e.symm); have B1 : Blk w1 g 48 _ := gb.trans (HB.out.alloc _); have HB1 := Lib.hid B1; have gc1 := B1.cell 0; have fz1 := B1.frozen 0; clear gb B1 hC1))
        all_goals
          go_wp2
          go_roundw
          case rel =>
            have hsz := G1.size
            have hwz := F.size
            have ek : L ++ p.take (k + 1) = T ++ [x] := by
              rw [HTT.out, List.take_succ_eq_append_getElem (by rw [← HN.out]; exact hlt), HX.out, List.getD_eq_getElem?_getD, List.getElem?_eq_getElem (by rw [← HN.out]; exact hlt), List.append_assoc]
              rfl
            have hlen : (T ++ [x]).length = T.length + 1 := by simp
            rw [hlen] at O1
            have hx256 : x < 256 := by rw [HX.out]; exact HP.out.getD (by decide) k
            have hne1 := O1.ne HB1.out (by decide)
            have HH : Hid (wr.heap.size = wr.heap.size) := rfl
            refine ⟨k + 1, by omega, by go_num, fun _ => by have := HTL.out; omega, ?_, ?_⟩
            · rw [ek]
              refine ⟨S1.out, by rw [hlen, HLT.out]; omega, All.app S3.out (All.one hx256), _, HB1.out.set_ 0 _, O1.far_ 0 _ hne1, fun q hq => ?_⟩
              rcases hv1 with e | e
              · rw [← hlen, e] at hq
                exact HF2.out q (by rw [HVE.out]; exact hq)
              · rw [← hlen, e] at hq
                injection hq with hq
                rw [HF.out]
                refine col_new f i ?_
                simp at hq
                omega
            · refine Far.trans (S' := fun q => q = g) (Far.trans (S' := fun q => (Value.slice Av tl cv).ownBlock = some q) (F.trans (Far.alloc (fun _ => False) wr _) (fun _ _ h => h.elim)).drew (Far.of_grown G1) (fun q hq e => ?_)) (Far.set_ w1 g 0 _) (fun q hq e => by rw [e]; exact HGI.out)
              have h2 := HF2.out q (by rw [HVE.out]; exact e)
              rw [HF.out, col_ext w f i q hq] at h2
              exact h2
          case measure => simp [intOf]; omega
      · have d1 : decide ((tl : Int) < 4096) = false := decide_eq_false (by omega)
        have e : fed L p = T := by
          unfold fed
          rw [hT, ← HL.out, show 4096 - lg = k by omega]
        have HS := Lib.hid (show RSrc wr f' i g (fed L p) from ⟨s1, by rw [e, hlt0]; exact s2, by rw [e]; exact s3, v, hB, by rw [e]; exact hO, hf⟩)
        have j0 : (k : Int) < (n : Int) := by omega
        clear hT htl hlt0 s1 s3 hO hve hCv hB hf e
        go_wp2
        go_end0
        exact ⟨rfl, HS.out, F⟩
    · have j0 : decide ((k : Int) < (n : Int)) = false := decide_eq_false (by omega)
      have e : fed L p = T := by
        unfold fed
        rw [hT, ← HL.out, List.take_of_length_le (l := p) (i := k) (by rw [← HN.out]; omega)]
        rcases Nat.eq_zero_or_pos k with h0 | h0
        · have hp0 : p = [] := List.eq_nil_of_length_eq_zero (by have := HN.out; omega)
          rw [hp0, List.take_nil]
        · have := hlk h0
          rw [List.take_of_length_le (by rw [← HN.out]; omega)]
      have HS := Lib.hid (show RSrc wr f' i g (fed L p) from ⟨s1, by rw [e, hlt0]; exact s2, by rw [e]; exact s3, v, hB, by rw [e]; exact hO, hf⟩)
      clear hT htl hlt0 s1 s3 hO hve hCv hB hf e
      go_wp2
      go_end0
      exact ⟨rfl, HS.out, F⟩
theorem RSrc.recol {w : World} {f f' : Nat → Nat} {i j g : Nat} {L : List Nat} (h : RSrc w f i g L) (hf : ∀ k, f k = i → f' k = j) : RSrc w f' j g L := by
  obtain ⟨h1, h2, h3, v, hB, hO, hk⟩ := h
  exact ⟨hf g h1, h2, h3, v, hB, hO, fun k e => hf k (hk k e)⟩
set_option maxHeartbeats 1000000 in
theorem rnew_any (f : Nat → Nat) (i : Nat) (p : List Nat) (A : Option Addr) (n c : Nat) (w : World) (hn : n = p.length) (hc : n ≤ c) (hn2 : n ≤ 140737488355328) (hp : All 256 p) (hC : C8 w A p.length p) :
    Calls Try.prog 26 #[.slice A n c] w fun e w' => e = .returned (.pointer (some ⟨w.heap.size, 0, none⟩)) ∧ RSrc w' (col f w.heap.size i) i w.heap.size (fed [] p) ∧ Below w.heap.size w w' := by
  have hcall : Calls Try.prog 36 #[.pointer (some ⟨w.heap.size, 0, none⟩), .slice A n c] (w.alloc (.cells #[.slice none 0 0] 48)) fun e w' => e = .returned (.tuple #[]) ∧ RSrc w' (col f w.heap.size i) i w.heap.size (fed [] p) ∧ Below w.heap.size (w.alloc (.cells #[.slice none 0 0] 48)) w' := by
    have hz : (w.alloc (.cells #[.slice none 0 0] 48)).heap.size = w.heap.size + 1 := by simp
    obtain ⟨f0, hf0⟩ : ∃ f0, f0 = col (fun _ => i + 1) w.heap.size i := ⟨_, rfl⟩
    have hold : ∀ k, k < w.heap.size → f0 k ≠ i := fun k hk e => by
      rw [hf0, col_ext w (fun _ => i + 1) i k hk] at e
      exact absurd e (Nat.succ_ne_self i)
    have h0 : RSrc (w.alloc (.cells #[.slice none 0 0] 48)) f0 i w.heap.size [] :=
      ⟨by rw [hf0]; exact col_new _ i (Nat.le_refl _), by simp, All.nil, _, Blk.new w _ _, Own.nil _ _, fun k hk => by cases hk⟩
    have hlt : 0 < n → ∀ ad, A = some ad → ad.block < w.heap.size := fun h0 ad e => by
      obtain ⟨b, o, e2, hb, _⟩ := hC.at_ (by omega)
      rw [e] at e2
      injection e2 with e2
      rw [e2]
      exact hb
    refine (rfeed_any f0 i w.heap.size [] p A n c _ h0 hn hc hn2 hp (hC.below ((Below.refl _ _).alloc (Nat.le_refl _) _)) (fun h0 ad e => hold _ (hlt h0 ad e))).mono fun e w' ⟨he, hS, hF⟩ => ⟨he, hS.recol (fun k hk => ?_), hF.below (fun k hk => hold k hk) (by omega)⟩
    rcases Nat.lt_or_ge k w.heap.size with h1 | h1
    · rw [hz] at hk
      rw [show col f0 (w.heap.size + 1) i k = f0 k from if_pos (by omega)] at hk
      exact absurd hk (hold k h1)
    · exact col_new f i h1
  clear hC hp hn
  go_enter Try.func26, Try.ntmps26
  go_wp2_with (go_at_call 36; (with_reducible refine hcall.mono ?_); rintro e w1 ⟨rfl, h1, hb1⟩)
  go_ret
  exact ⟨rfl, h1, (((Below.refl _ _).alloc (Nat.le_refl _) _).trans hb1)⟩
theorem rbyte_nil (f : Nat → Nat) (i g : Nat) (w : World) (h : RSrc w f i g []) : Calls Try.prog 37 #[.pointer (some ⟨g, 0, none⟩)] w fun e w' => e = .returned (.tuple #[.int .u8 0, .int .i64 90]) ∧ w = w' := by
  obtain ⟨s1, s2, s3, v, hB, hO, hf⟩ := h
  obtain ⟨Av, cv, hve, hcv, hCv⟩ := hO.arg
  have g0 : w.cell? ⟨g, 0, none⟩ = some (.slice Av 0 cv) := by rw [hB.cell 0, hve]; rfl
  clear s1 s2 s3 hB hO hf hve hCv
  go_enter Try.func37, Try.ntmps37
  go_wp2
  go_ret2
  exact ⟨rfl, rfl⟩
set_option maxHeartbeats 1000000 in
theorem rbyte_cons (f : Nat → Nat) (i g x : Nat) (L : List Nat) (w : World) (h : RSrc w f i g (x :: L)) : Calls Try.prog 37 #[.pointer (some ⟨g, 0, none⟩)] w fun e w' => e = .returned (.tuple #[.int .u8 (x : Int), .int .i64 0]) ∧ RSrc w' (col f w.heap.size i) i g L ∧ Far (fun k => k = g) w w' := by
  obtain ⟨s1, s2, s3, v, hB, hO, hf⟩ := h
  obtain ⟨Av, cv, hve, hcv, hCv⟩ := hO.arg
  obtain ⟨b, o, rfl, hlt, hbs⟩ := hCv.at_ (by simp)
  obtain ⟨n, hn⟩ : ∃ n, n = L.length := ⟨_, rfl⟩
  rw [List.length_cons, ← hn] at hve hcv s2
  obtain ⟨A', hA, hA'⟩ := sliced_one (some ⟨b, o, none⟩) n cv hcv
  have hsl : ∀ W : World, (Instr.slice 31 (.slice (some ⟨b, o, none⟩) (n + 1) cv) (some (.int .i64 1)) none none).run Try.prog W = .ok (.slice A' n (cv - 1)) W := fun W => by
    rw [← hA]
    go_simp
    intro h
    omega
  have g0 : w.cell? ⟨g, 0, none⟩ = some (.slice (some ⟨b, o, none⟩) (n + 1) cv) := by rw [hB.cell 0, hve]; rfl
  have gx : w.cell? ⟨b, o, none⟩ = some (.int .u8 (x : Int)) := hbs 0 (by simp)
  have hCn : C8 w A' L.length L := by
    rcases Nat.eq_zero_or_pos n with h0 | h0
    · have : L = [] := List.eq_nil_of_length_eq_zero (by omega)
      subst this
      exact C8.nil w A'
    · rw [hA' h0 b o rfl]
      refine C8.of_Bs (fun j hj => ?_) (by omega)
      have h := hbs (j + 1) (by simp; omega)
      rw [show o + 1 + j = o + (j + 1) by omega, h]
      rfl
  have hgl := hB.lt
  have HB := Lib.hid hB; have HN := Lib.hid hn; have HC := Lib.hid hCn; have S1 := Lib.hid s1; have S3 := Lib.hid s3
  have i0 : 0 < n + 1 := by omega
  have i1 : (0 : Int) < (n : Int) + 1 := by omega
  clear hB hO hf hve hCv hn hA hA' hbs hCn s1 s3
  go_enter Try.func37, Try.ntmps37
  go_wp2_with (at_builtin; go_loud (refine wpl_append rfl _ _ _ rfl info_byte Try.underlying31 w.heap.size (.slice (some ⟨w.heap.size, 0, none⟩) 0 0) [] rfl (Own.nil_alloc w _ _ rfl (Nat.le_refl _)) A' (cv - 1) n L rfl HN.out (HC.out.below ((Below.refl _ _).alloc (Nat.le_refl _) _)) (by simp; rw [← HN.out]; omega) (by simp) ?_); intro v' w1 O1 G1 _
               obtain ⟨A1, c1, e1, hl1, hC1⟩ := O1.arg
               subst e1
               have gb := G1.block g (Nat.lt_of_lt_of_le hgl (by simp)) (fun e => by have e' : some g = some w.heap.size := e; injection e' with e'; omega)
               have B1 : Blk w1 g 48 _ := gb.trans (HB.out.alloc _)
               have HB1 := Lib.hid B1
               have gc1 := B1.cell 0
               have fz1 := B1.frozen 0
               clear gb B1 hC1)
  go_ret2
  rw [List.nil_append] at O1
  have hne1 := O1.ne HB1.out (by decide)
  refine ⟨rfl, ⟨(col_ext w f i g hgl).trans S1.out, by rw [← HN.out]; omega, fun y hy => S3.out y (by simp [hy]), _, HB1.out.set_ 0 _, (O1.far_ 0 _ hne1).weak (Nat.zero_le _), fun q hq => col_new f i (own_base O1 q hq)⟩, ?_⟩
  have F1 := (Far.alloc (fun _ => False) w (.cells #[] 5)).trans (Far.of_grown G1) (S' := fun k => _) (fun q hq e => by have e' : some w.heap.size = some q := e; injection e' with e'; omega)
  exact (F1.mono (fun _ _ h => h.elim)).trans (Far.set_ w1 g 0 _) (fun _ _ h => h)
end Go.Proofs.Ytaeipffenlkjpaa.Sha
