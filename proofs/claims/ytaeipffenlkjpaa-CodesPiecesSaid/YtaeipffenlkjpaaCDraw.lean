/-
  codes.drawn, Device, Auth, User: what the calls do, walked.
-/
import Derived.Test.YtaeipffenlkjpaaCJoin
namespace Go.Proofs.Ytaeipffenlkjpaa.Sha
open Go.RowKit Go.Proofs.YtaeipffenlkjpaaW.PrintWords Go.Proofs.Ytaeipffenlkjpaa.PAll Go.Proofs.Ytaeipffenlkjpaa.Plain Go.Proofs.Ytaeipffenlkjpaa.Cod
set_option linter.unusedVariables false
set_option linter.unusedSimpArgs false
def b64 (p : List Nat) : ByteArray := txt (spell al64 (six p))
/-- So many bytes as a text, the error's number, what is left. -/
def took (n : Nat) (L : List Nat) : ByteArray × Nat × List Nat := if n ≤ L.length then (b64 (L.take n), 0, L.drop n) else (⟨#[]⟩, 90, [])
theorem Own.farK {w w' : World} {base g : Nat} {v : Value} {p : List Nat} (h : Own w base v p) (F : Far (fun k => k = g) w w') (hg : g < base) : Own w' base v p :=
  own_move h (fun k hk => F.at_ (own_lt h k hk) (by have := own_base h k hk; omega))
theorem drop_succ {L : List Nat} {k x : Nat} {M : List Nat} (h : L.drop k = x :: M) : L.drop (k + 1) = M ∧ L.take (k + 1) = L.take k ++ [x] ∧ k < L.length := by
  have hk : k < L.length := by
    rcases Nat.lt_or_ge k L.length with h0 | h0
    · exact h0
    · rw [List.drop_eq_nil_of_le h0] at h; cases h
  rw [List.drop_eq_getElem_cons hk] at h
  injection h with h1 h2
  exact ⟨h2, by rw [List.take_succ_eq_append_getElem hk, h1], hk⟩
theorem Src.all {w : World} {f : Nat → Nat} {i g : Nat} {L : List Nat} (h : Src w f i g L) : All 256 L := h.2.2.1
set_option maxRecDepth 100000 in
set_option maxHeartbeats 1000000 in
theorem drawn_any (f : Nat → Nat) (i g n : Nat) (L : List Nat) (w : World) (h : Src w f i g L) (hn : n ≤ 1000) :
    Calls Try.prog 35 #[.pointer (some ⟨g, 0, none⟩), .int .i64 (n : Int)] w fun e w' => e = .returned (.tuple #[.string (took n L).1, .int .i64 ((took n L).2.1 : Nat)]) ∧ Src w' (col f w.heap.size (i + 1)) i g (took n L).2.2 ∧ Far (fun k => k = g) w w' := by
  have hg := h.lt
  have hL := h.all
  have h0 : Src w (col f w.heap.size (i + 1)) i g L := h.far (col_ext _ _ _) (Far.refl (fun _ => False) w) (fun _ _ _ hf => hf)
  have hb : ∀ (k : Nat) (v : Value) (p : List Nat) (W : World), Own W w.heap.size v p → k < W.heap.size → col f w.heap.size (i + 1) k = i → some k ≠ v.ownBlock := fun k v p W O hk he e => by
    rw [col_new f (i + 1) (own_base O k e.symm)] at he
    omega
  obtain ⟨T, hT⟩ : ∃ T, T = took n L := ⟨_, rfl⟩
  rw [← hT]
  have HT := Lib.hid hT; have HL := Lib.hid hL; have HB := Lib.hid hb
  obtain ⟨f', hf'⟩ : ∃ f', f' = col f w.heap.size (i + 1) := ⟨_, rfl⟩
  rw [← hf'] at h0 HB ⊢
  clear h hT hL hb hf'
  have i0 : (n : Int) ≤ 1000 := by omega
  go_enter Try.func35, Try.ntmps35
  go_wp2
  go_loopw [6, 10] (fun v j wr => ∃ k : Nat, k ≤ n ∧ j = .int .i64 (k : Int) ∧ k ≤ L.length ∧ Src wr f' i g (L.drop k) ∧ Own wr w.heap.size v (L.take k) ∧ Far (fun k => k = g) w wr) (fun _ j _ => n - (intOf j).toNat)
  case atStart => exact ⟨0, by omega, rfl, by omega, h0, Own.nil _ _, Far.refl _ _⟩
  case round =>
    clear h0
    obtain ⟨k, hk, rfl, hkL, S0, O, F⟩ := hrel
    by_cases hlt : k < n
    · cases hd : L.drop k with
      | nil =>
        rw [hd] at S0
        have hcall := byte_nil wr (some ⟨g, 0, none⟩) (.inr ⟨f', i, g, S0, rfl⟩)
        have HO := Lib.hid O; have HS := Lib.hid S0; have HD := Lib.hid hd
        clear O S0 hd
        go_wp2_with (go_at_call 29; (with_reducible refine hcall.mono ?_); rintro e w1 ⟨rfl, rfl⟩)
        go_ret2
        have hl : ¬ n ≤ L.length := by
          have h1 := congrArg List.length HD.out
          rw [List.length_drop] at h1
          simp at h1
          omega
        have e : T = (⟨#[]⟩, 90, []) := by rw [HT.out]; unfold took; rw [if_neg hl]
        rw [e]
        exact ⟨rfl, HS.out, F⟩
      | cons x M =>
        obtain ⟨e1, e2, e3⟩ := drop_succ hd
        rw [hd] at S0
        have hcall := byte_cons f' i g x M wr S0
        have HO := Lib.hid O; have E1 := Lib.hid e1; have E2 := Lib.hid e2
        have hl : (L.take k).length ≤ 1000 := by rw [List.length_take]; omega
        clear O S0 hd e1 e2
        go_wp2_with (first
          | (go_at_call 29; (with_reducible refine hcall.mono ?_); rintro e w1 ⟨rfl, S1, F1⟩
             have O1 := HO.out.farK F1 hg
             have hz := F1.size)
          | (at_builtin; go_loud (refine wpl_append rfl _ _ _ rfl info_byte Try.underlying31 w.heap.size _ (L.take k) rfl (O1.alloc _) _ _ _ [x] rfl rfl (C8.one_ _ _ _ rfl _ rfl) (by rw [List.length_singleton]; omega) (by have := F.size; simp; omega) ?_); intro v' w2 O2 G2 _))
        go_roundw
        case rel =>
          have Fa := Far.alloc (fun _ => False) w1 (.cells #[.int .u8 (x : Int)] 5)
          have S2 : Src (w1.alloc (.cells #[.int .u8 (x : Int)] 5)) f' i g M := S1.far (Ext.refl _ _) Fa (fun _ _ _ h => h)
          have S3 : Src w2 f' i g M := S2.keep (Ext.refl _ _) G2.size (fun q hq he => G2.block q hq (HB.out q _ _ _ (O1.alloc _) hq he))
          refine ⟨k + 1, by omega, by go_num, e3, by rw [E1.out]; exact S3, by rw [E2.out]; exact O2, ?_⟩
          have F2 : Far (fun k => k = g) w w1 := F.trans F1 (fun _ _ h => h)
          have F3 : Far (fun k => k = g) w _ := F2.trans Fa (fun _ _ h => h.elim)
          refine F3.trans (Far.of_grown G2) (fun q hq e => ?_)
          have := own_base (O1.alloc (.cells #[.int .u8 (x : Int)] 5)) q e
          omega
        case measure => simp [intOf]; omega
    · obtain ⟨Av, cv, hve, hcv, hCv⟩ := O.arg
      have ek : k = n := by omega
      have hl : (L.take k).length = k := by rw [List.length_take]; omega
      rw [hl] at hve hcv hCv
      have e : T = (b64 (L.take k), 0, L.drop k) := by rw [HT.out]; unfold took; rw [if_pos (by omega), ek]
      have hcall := tob64_any (L.take k) Av k cv wr hl.symm (by omega) hcv (HL.out.take k) (by rw [hl]; exact hCv)
      have HS := Lib.hid S0; have HE := Lib.hid e
      clear O S0 ek hl e hcv hCv
      subst hve
      go_wp2_with (go_at_call 45; (with_reducible refine hcall.mono ?_); rintro e w1 ⟨rfl, hb1⟩)
      go_ret2
      rw [HE.out]
      exact ⟨rfl, HS.out.below hb1, F.trans (Far.of_below hb1) (fun _ _ h => h)⟩
theorem device_any (f : Nat → Nat) (i g : Nat) (L : List Nat) (w : World) (h : Src w f i g L) :
    Calls Try.prog 23 #[.pointer (some ⟨g, 0, none⟩)] w fun e w' => e = .returned (.tuple #[.string (took 32 L).1, .int .i64 ((took 32 L).2.1 : Nat)]) ∧ Src w' (col f w.heap.size (i + 1)) i g (took 32 L).2.2 ∧ Far (fun k => k = g) w w' := by
  have hcall := drawn_any f i g 32 L w h (by decide)
  rw [show ((32 : Nat) : Int) = 32 from rfl] at hcall
  obtain ⟨T, hT⟩ : ∃ T, T = took 32 L := ⟨_, rfl⟩
  rw [← hT] at hcall ⊢
  clear hT h
  go_enter Try.func23, Try.ntmps23
  go_wp2_with (go_at_call 35; (with_reducible refine hcall.mono ?_); rintro e w1 ⟨rfl, S1, F1⟩)
  go_ret2
  exact ⟨rfl, S1, F1⟩
theorem auth_any (f : Nat → Nat) (i g : Nat) (L : List Nat) (w : World) (h : Src w f i g L) :
    Calls Try.prog 24 #[.pointer (some ⟨g, 0, none⟩)] w fun e w' => e = .returned (.tuple #[.string (took 24 L).1, .int .i64 ((took 24 L).2.1 : Nat)]) ∧ Src w' (col f w.heap.size (i + 1)) i g (took 24 L).2.2 ∧ Far (fun k => k = g) w w' := by
  have hcall := drawn_any f i g 24 L w h (by decide)
  rw [show ((24 : Nat) : Int) = 24 from rfl] at hcall
  obtain ⟨T, hT⟩ : ∃ T, T = took 24 L := ⟨_, rfl⟩
  rw [← hT] at hcall ⊢
  clear hT h
  go_enter Try.func24, Try.ntmps24
  go_wp2_with (go_at_call 35; (with_reducible refine hcall.mono ?_); rintro e w1 ⟨rfl, S1, F1⟩)
  go_ret2
  exact ⟨rfl, S1, F1⟩
/-- A nil source has nothing. -/
theorem drawn_nil (n : Nat) (w : World) (h0 : 0 < n) (hn : n ≤ 1000) : Calls Try.prog 35 #[.pointer none, .int .i64 (n : Int)] w fun e w' => e = .returned (.tuple #[.string ⟨#[]⟩, .int .i64 90]) ∧ w = w' := by
  have hcall := byte_nil w none (.inl rfl)
  have i0 : (0 : Int) < (n : Int) := by omega
  go_enter Try.func35, Try.ntmps35
  go_wp2
  refine wp_loop_rounds 1 ?_
  rw [rounds_succ]
  go_wp2_with (go_at_call 29; (with_reducible refine hcall.mono ?_); rintro e w1 ⟨rfl, rfl⟩)
  go_ret2
  exact ⟨rfl, rfl⟩
theorem device_nil (w : World) : Calls Try.prog 23 #[.pointer none] w fun e w' => e = .returned (.tuple #[.string ⟨#[]⟩, .int .i64 90]) ∧ w = w' := by
  have hcall := drawn_nil 32 w (by decide) (by decide)
  rw [show ((32 : Nat) : Int) = 32 from rfl] at hcall
  go_enter Try.func23, Try.ntmps23
  go_wp2_with (go_at_call 35; (with_reducible refine hcall.mono ?_); rintro e w1 ⟨rfl, rfl⟩)
  go_ret2
  exact ⟨rfl, rfl⟩
theorem auth_nil (w : World) : Calls Try.prog 24 #[.pointer none] w fun e w' => e = .returned (.tuple #[.string ⟨#[]⟩, .int .i64 90]) ∧ w = w' := by
  have hcall := drawn_nil 24 w (by decide) (by decide)
  rw [show ((24 : Nat) : Int) = 24 from rfl] at hcall
  go_enter Try.func24, Try.ntmps24
  go_wp2_with (go_at_call 35; (with_reducible refine hcall.mono ?_); rintro e w1 ⟨rfl, rfl⟩)
  go_ret2
  exact ⟨rfl, rfl⟩
theorem user_nil (w : World) : Calls Try.prog 17 #[.pointer none] w fun e w' => e = .returned (.tuple #[.string ⟨#[]⟩, .int .i64 90]) ∧ w = w' := by
  have hcall := byte_nil w none (.inl rfl)
  go_enter Try.func17, Try.ntmps17
  go_wp2
  refine wp_loop_rounds 1 ?_
  rw [rounds_succ]
  go_wp2_with (go_at_call 29; (with_reducible refine hcall.mono ?_); rintro e w1 ⟨rfl, rfl⟩)
  go_ret2
  exact ⟨rfl, rfl⟩
theorem LS_get : ∀ k, k < 20 → (LS.data.toList.getD k 0).toNat = lets.getD k 0 := by decide +kernel
theorem LS_idx (k : Nat) (W : World) (hk : k < 20) : (Instr.index 9 (.string ⟨#[66, 67, 68, 70, 71, 72, 74, 75, 76, 77, 78, 80, 81, 82, 83, 84, 86, 87, 88, 90]⟩) (.int .u8 (k : Int))).run Try.prog W = .ok (.int .u8 (lets.getD k 0 : Nat)) W := by
  have e := LS_get k hk
  have hz := LS_size
  show (Instr.index 9 (.string LS) (.int .u8 (k : Int))).run Try.prog W = _
  obtain ⟨S, hS⟩ : ∃ S, S = LS := ⟨_, rfl⟩
  rw [← hS] at e hz ⊢
  have hlt : k < S.size := by omega
  have e2 : (S[k]'hlt).toNat = lets.getD k 0 := by
    rw [← e, List.getD_eq_getElem?_getD, List.getElem?_eq_getElem (by simpa using hlt)]
    rfl
  rw [← e2]
  clear hS e e2 hz hk
  go_simp
set_option maxRecDepth 100000 in
set_option maxHeartbeats 2000000 in
theorem user_any (f : Nat → Nat) (i g : Nat) (L : List Nat) (w : World) (h : Src w f i g L) :
    Calls Try.prog 17 #[.pointer (some ⟨g, 0, none⟩)] w fun e w' => e = .returned (.tuple #[.string (txt (user [] L).1), .int .i64 ((user [] L).2.1 : Nat)]) ∧ Src w' (col f w.heap.size (i + 1)) i g (user [] L).2.2 ∧ Far (fun k => k = g) w w' := by
  have hg := h.lt
  have hL := h.all
  have h0 : Src w (col f w.heap.size (i + 1)) i g L := h.far (col_ext _ _ _) (Far.refl (fun _ => False) w) (fun _ _ _ hf => hf)
  have hb : ∀ (k : Nat) (v : Value) (p : List Nat) (W : World), Own W w.heap.size v p → k < W.heap.size → col f w.heap.size (i + 1) k = i → some k ≠ v.ownBlock := fun k v p W O hk he e => by
    rw [col_new f (i + 1) (own_base O k e.symm)] at he
    omega
  obtain ⟨T, hT⟩ : ∃ T, user [] L = T := ⟨_, rfl⟩
  rw [hT]
  have HL := Lib.hid hL; have HB := Lib.hid hb
  obtain ⟨f', hf'⟩ : ∃ f', f' = col f w.heap.size (i + 1) := ⟨_, rfl⟩
  rw [← hf'] at h0 HB ⊢
  have hidx := fun (k : Nat) (W : World) (hk : k < 20) => LS_idx k W hk
  have HI := Lib.hid hidx
  clear h hL hb hf' hidx
  go_enter Try.func17, Try.ntmps17
  go_wp2
  go_loopg [4, 5, 6] L.length (fun gk v v5 v6 wr => ∃ acc M, M.length = gk ∧ ((acc.length ≤ 7 ∧ user acc M = T) ∨ (acc.length = 8 ∧ T = (acc, 0, M))) ∧ (∀ x ∈ M, x < 256) ∧ Src wr f' i g M ∧ Own wr w.heap.size v acc ∧ Far (fun k => k = g) w wr)
  case atStart => exact ⟨[], L, rfl, .inl ⟨by simp, hT⟩, HL.out, h0, Own.nil _ _, Far.refl _ _⟩
  case round =>
    clear h0 hT
    obtain ⟨acc, M, hMl, hor, hM, S0, O, F⟩ := hrel
    obtain ⟨Av, cv, hve, hcv, hCv⟩ := O.arg
    rcases hor with ⟨h7, hT⟩ | ⟨h8, hT⟩
    · cases M with
      | nil =>
        have e : T = ([], 90, []) := by rw [← hT]; rfl
        have hcall := byte_nil wr (some ⟨g, 0, none⟩) (.inr ⟨f', i, g, S0, rfl⟩)
        have HE := Lib.hid e; have HS := Lib.hid S0
        have i1 : (acc.length : Int) < 8 := by omega
        clear O hCv hT e S0 hMl
        subst hve
        go_wp2_with (go_at_call 29; (with_reducible refine hcall.mono ?_); rintro e w1 ⟨rfl, rfl⟩)
        go_ret2
        rw [HE.out]
        exact ⟨rfl, HS.out, F⟩
      | cons x M =>
        have hcall := byte_cons f' i g x M wr S0
        have hx : x < 256 := hM x (by simp)
        have HM := Lib.hid hM; have HO := Lib.hid O; have HT := Lib.hid hT; have HL2 := Lib.hid hMl
        have i1 : (acc.length : Int) < 8 := by omega
        have i2 : (0 : Int) ≤ (x : Int) := by omega
        have i3 : (x : Int) < 256 := by omega
        obtain ⟨gk', hgk⟩ : ∃ gk', gk = gk' + 1 := ⟨M.length, by simpa using hMl.symm⟩
        have HGK := Lib.hid hgk
        subst hve
        clear O hCv hT S0 hMl hM
        by_cases hx2 : x < 240
        · have d2 : decide ((x : Int) < 240) = true := decide_eq_true (by omega)
          obtain ⟨y, hy⟩ : ∃ y, y = lets.getD (x % 20) 0 := ⟨_, rfl⟩
          have hix : ∀ W : World, (Instr.index 9 (.string ⟨#[66, 67, 68, 70, 71, 72, 74, 75, 76, 77, 78, 80, 81, 82, 83, 84, 86, 87, 88, 90]⟩) (.int .u8 ((x : Int) % 20))).run Try.prog W = .ok (.int .u8 (y : Int)) W := fun W => by
            rw [hy, show (x : Int) % 20 = ((x % 20 : Nat) : Int) by omega]
            exact HI.out (x % 20) W (Nat.mod_lt _ (by decide))
          have HY := Lib.hid hy
          clear hy
          subst hgk
          go_wp2_with (first
            | (go_at_call 29; (with_reducible refine hcall.mono ?_); rintro e w1 ⟨rfl, S1, F1⟩
               have O1 := HO.out.farK F1 hg
               have hz := F1.size)
            | (at_builtin; go_loud (refine wpl_append rfl _ _ _ rfl info_byte Try.underlying31 w.heap.size _ acc rfl (O1.alloc _) _ _ _ [y] rfl rfl (C8.one_ _ _ _ rfl _ rfl) (by rw [List.length_singleton]; omega) (by have := F.size; simp; omega) ?_); intro v' w2 O2 G2 _))
          go_roundg gk'
          case rel =>
            have Fa := Far.alloc (fun _ => False) w1 (.cells #[.int .u8 (y : Int)] 5)
            have S2 : Src (w1.alloc (.cells #[.int .u8 (y : Int)] 5)) f' i g M := S1.far (Ext.refl _ _) Fa (fun _ _ _ h => h)
            have S3 : Src w2 f' i g M := S2.keep (Ext.refl _ _) G2.size (fun q hq he => G2.block q hq (HB.out q _ _ _ (O1.alloc _) hq he))
            refine ⟨acc ++ [y], M, by have := HL2.out; simpa using this, ?_, fun z hz => HM.out z (by simp [hz]), S3, O2, ?_⟩
            · have hT := HT.out
              unfold user at hT
              rw [if_pos hx2, ← HY.out] at hT
              by_cases h8 : acc.length = 7
              · rw [if_pos h8] at hT
                exact .inr ⟨by simp; omega, hT.symm⟩
              · rw [if_neg h8] at hT
                exact .inl ⟨by simp; omega, hT⟩
            · have F2 : Far (fun k => k = g) w w1 := F.trans F1 (fun _ _ h => h)
              have F3 : Far (fun k => k = g) w _ := F2.trans Fa (fun _ _ h => h.elim)
              refine F3.trans (Far.of_grown G2) (fun q hq e => ?_)
              have := own_base (O1.alloc (.cells #[.int .u8 (y : Int)] 5)) q e
              omega
          case measure => omega
        · have d2 : decide ((x : Int) < 240) = false := decide_eq_false (by omega)
          subst hgk
          go_wp2_with (go_at_call 29; (with_reducible refine hcall.mono ?_); rintro e w1 ⟨rfl, S1, F1⟩)
          go_roundg gk'
          case rel =>
            refine ⟨acc, M, by have := HL2.out; simpa using this, .inl ⟨h7, ?_⟩, fun z hz => HM.out z (by simp [hz]), S1, HO.out.farK F1 hg, F.trans F1 (fun _ _ h => h)⟩
            rw [← HT.out]
            conv => rhs; unfold user
            rw [if_neg hx2]
          case measure => omega
    · have HS := Lib.hid S0
      have hcv := Kd.C_string (P := Try.prog) (w := wr) (A := Av) (c := cv) Try.underlying31 Try.underlying5 Try.underlying9 (show Kd.C (Kd.int .u8) wr Av acc.length (toI acc) from hCv)
      have HT := Lib.hid hT
      rw [h8] at hcv hve
      clear hCv O S0 hT hMl h8
      subst hve
      go_wp2
      go_ret2
      rw [HT.out]
      exact ⟨rfl, HS.out, F⟩
end Go.Proofs.Ytaeipffenlkjpaa.Sha
