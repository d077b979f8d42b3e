/-
  codes.joined, NewSource, (*Source).Feed of the program: what the calls do, walked.
-/
import Derived.Test.YtaeipffenlkjpaaCSrc
namespace Go.Proofs.Ytaeipffenlkjpaa.Sha
open Go.RowKit Go.Proofs.YtaeipffenlkjpaaW.PrintWords Go.Proofs.Ytaeipffenlkjpaa.PAll Go.Proofs.Ytaeipffenlkjpaa.Plain Go.Proofs.Ytaeipffenlkjpaa.Cod
set_option linter.unusedVariables false
set_option linter.unusedSimpArgs false
/-- Lists one behind the other, as many bytes as a source holds. -/
def joins (ps : List (List Nat)) : List Nat := ps.foldl fed []
theorem foldl_len (ps : List (List Nat)) : ∀ L : List Nat, L.length ≤ 4096 → (ps.foldl fed L).length ≤ 4096 := by
  induction ps with
  | nil => exact fun L h => h
  | cons p ps ih => exact fun L h => ih _ (fed_len L p h)
theorem joins_len (ps : List (List Nat)) : (joins ps).length ≤ 4096 := foldl_len ps [] (by simp)
theorem foldl_all (ps : List (List Nat)) (hp : ∀ p ∈ ps, All 256 p) : ∀ L : List Nat, All 256 L → All 256 (ps.foldl fed L) := by
  induction ps with
  | nil => exact fun L h => h
  | cons p ps ih => exact fun L h => ih (fun q hq => hp q (by simp [hq])) _ (fed_all h (hp p (by simp)))
theorem joins_take (ps : List (List Nat)) (k : Nat) (p : List Nat) (h : ps[k]? = some p) : joins (ps.take (k + 1)) = fed (joins (ps.take k)) p := by
  obtain ⟨hl, e⟩ := List.getElem?_eq_some_iff.1 h
  unfold joins
  rw [List.take_succ_eq_append_getElem hl, List.foldl_append, e]
  rfl
set_option maxRecDepth 100000 in
set_option maxHeartbeats 1000000 in
theorem joined_any (pb N : Nat) (vs : Array Value) (ps : List (List Nat)) (w : World) (hN : N = ps.length) (hs : N ≤ 1000) (hB : Blk w pb 31 vs)
    (hv : ∀ (k : Nat) (p : List Nat), ps[k]? = some p → ∃ A c, vs[k]? = some (Value.slice A p.length c) ∧ p.length ≤ c ∧ C8 w A p.length p) :
    Calls Try.prog 34 #[.slice (some ⟨pb, 0, none⟩) N N] w fun e w' => ∃ v, e = .returned v ∧ Own w' w.heap.size v (joins ps) ∧ Below w.heap.size w w' := by
  have HV := Lib.hid hv; have HN := Lib.hid hN; have HB := Lib.hid hB; have hlt := hB.lt
  clear hv hN hB
  go_enter Try.func34, Try.ntmps34
  go_wp2
  go_loopw [3, 8] (fun v i wr => ∃ k : Nat, k ≤ N ∧ i = .int .i64 (k : Int) ∧ Below w.heap.size w wr ∧ Own wr w.heap.size v (joins (ps.take k))) (fun _ i _ => N - (intOf i).toNat)
  case atStart => exact ⟨0, by omega, rfl, Below.refl _ _, Own.nil _ _⟩
  case round =>
    obtain ⟨k, hk, rfl, hbel, O⟩ := hrel
    by_cases hlt2 : k < N
    · obtain ⟨p, hp⟩ : ∃ p, ps[k]? = some p := ⟨_, List.getElem?_eq_getElem (by rw [← HN.out]; exact hlt2)⟩
      obtain ⟨A, c, h1, h2, h4⟩ := HV.out k p hp
      have g0 : wr.cell? ⟨pb, k, none⟩ = some (.slice A p.length c) := (hbel.cell (p := ⟨pb, k, none⟩) hlt).trans ((HB.out.cell k).trans h1)
      obtain ⟨acc, hacc⟩ : ∃ acc, acc = joins (ps.take k) := ⟨_, rfl⟩
      have hal : acc.length ≤ 4096 := by rw [hacc]; exact joins_len _
      have hnext : joins (ps.take (k + 1)) = acc ++ p.take (4096 - acc.length) := by rw [joins_take ps k p hp, hacc]; rfl
      rw [← hacc] at O
      obtain ⟨Av, cv, hve, hcv, hCv⟩ := O.arg
      have hve' := hve
      obtain ⟨a, ha⟩ : ∃ a, a = acc.length := ⟨_, rfl⟩
      obtain ⟨n, hn⟩ : ∃ n, n = p.length := ⟨_, rfl⟩
      rw [← ha] at hal hnext hve
      rw [← hn] at g0 h2 h4
      obtain ⟨m, hm, hmn, hma, hmt⟩ : ∃ m : Nat, ((if (4096 : Int) - (a : Int) < (n : Int) then (4096 : Int) - (a : Int) else (n : Int)) = (m : Int)) ∧ m ≤ n ∧ m ≤ 4096 ∧ p.take (4096 - a) = p.take m := by
        by_cases h : (4096 : Int) - (a : Int) < (n : Int)
        · exact ⟨4096 - a, by rw [if_pos h]; omega, by omega, by omega, rfl⟩
        · exact ⟨n, by rw [if_neg h], by omega, by omega, by rw [List.take_of_length_le (by omega), List.take_of_length_le (by omega)]⟩
      have hCm := (h4.below hbel).take m hmn
      have hml : (p.take m).length = m := by rw [List.length_take]; omega
      have hmin : ∀ (ts : Array TypeId) (t : TypeId) (W : World), (Builtin.min_ ts t #[.int .i64 (n : Int), .int .i64 ((4096 : Int) - (a : Int))]).run Try.prog W = .ok (.int .i64 (m : Int)) W := fun ts t W => by
        rw [run_min_int2, hm]
      have HC := Lib.hid hCm; have HO := Lib.hid (show Own wr w.heap.size (.slice Av a cv) acc by rw [ha, ← hve']; exact O); have HX := Lib.hid hnext; have HA := Lib.hid ha; have HT := Lib.hid hmt; have HML := Lib.hid hml
      clear hve'
      clear hCm hnext ha hm hmt hml hacc hn h1 h4 hp hCv O
      subst hve
      have j0 : (m : Int) ≤ (n : Int) := by omega
      have j1 : (m : Int) ≤ (c : Int) := by omega
      have hC8 : C8 wr A (p.take m).length (p.take m) := by rw [HML.out]; exact HC.out
      have HC8 := Lib.hid hC8
      clear hC8
      go_wp2_with (at_builtin; go_loud (refine wpl_append rfl _ _ _ rfl info_byte Try.underlying31 w.heap.size _ acc rfl HO.out A c m (p.take m) rfl HML.out.symm HC8.out (by rw [HML.out, ← HA.out]; omega) hbel.size ?_); intro v' w1 O1 G1 _)
      go_roundw
      case rel => 
        refine ⟨k + 1, by omega, by go_num, hbel.grown G1 hbel.size (fun k hk => (HO.out.lt k hk).1), ?_⟩
        rw [HX.out, HT.out]
        exact O1
      case measure => simp [intOf]; omega
    · go_wp2
      go_ret
      refine ⟨_, rfl, ?_, hbel⟩
      rw [List.take_of_length_le (by rw [← HN.out]; omega)] at O
      exact O
theorem Own.src {w : World} {base : Nat} {v : Value} {L : List Nat} (h : Own w base v L) : ∃ A c, v = .slice A L.length c ∧ L.length ≤ c ∧ c ≤ 9223372036854775807 ∧ (0 < L.length → ∃ b, A = some ⟨b, 0, none⟩ ∧ base ≤ b ∧ b < w.heap.size ∧ Bs w b 0 L) := by
  rcases h.2 with ⟨e, h0⟩ | ⟨g, cap, cur, e, hg, hh, a1, a2, a3, a4⟩
  · exact ⟨none, 0, by rw [e, h0], by omega, by omega, fun hp => by omega⟩
  · refine ⟨some ⟨g, 0, none⟩, cap, e, a1, by unfold maxLen at a2; omega, fun hp => ⟨g, rfl, hg, (show Blk w g 5 cur from hh).lt, ?_⟩⟩
    subst e
    obtain ⟨_, _, hC⟩ := h.c8
    obtain ⟨b, o, e, _, hbs⟩ := hC.at_ hp
    injection e with e
    injection e with e1 e2 e3
    subst e1 e2
    exact hbs
theorem joins_one (p : List Nat) : joins [p] = fed [] p := rfl
theorem joins_two (L p : List Nat) (h : L.length ≤ 4096) : joins [L, p] = fed L p := by
  show fed (fed [] L) p = fed L p
  rw [fed_one L h]
set_option maxHeartbeats 1000000 in
theorem newSource_any (f : Nat → Nat) (i : Nat) (p : List Nat) (A : Option Addr) (n c : Nat) (w : World) (hn : n = p.length) (hc : n ≤ c) (hp : All 256 p) (hC : C8 w A p.length p) :
    Calls Try.prog 18 #[.slice A n c] w fun e w' => ∃ g, e = .returned (.pointer (some ⟨g, 0, none⟩)) ∧ w.heap.size ≤ g ∧ Src w' (col f w.heap.size i) i g (fed [] p) ∧ Below w.heap.size w w' := by
  have hcall : Calls Try.prog 34 #[.slice (some ⟨w.heap.size, 0, none⟩) 1 1] (w.alloc (.cells #[.slice A n c] 31)) fun e w' => ∃ v, e = .returned v ∧ Own w' (w.heap.size + 1) v (fed [] p) ∧ Below (w.heap.size + 1) (w.alloc (.cells #[.slice A n c] 31)) w' := by
    have h := joined_any w.heap.size 1 #[.slice A n c] [p] (w.alloc (.cells #[.slice A n c] 31)) rfl (by decide) (Blk.new w _ _) (fun k q hk => by
      rcases k with _ | k
      · obtain rfl := Option.some.inj hk
        exact ⟨A, c, by rw [hn]; rfl, by omega, hC.below ((Below.refl _ _).alloc (Nat.le_refl _) _)⟩
      · simp at hk)
    rw [joins_one] at h
    simpa using h
  have HC := Lib.hid hcall
  clear hcall hn
  go_enter Try.func18, Try.ntmps18
  go_wp2_with (go_at_call 34; (with_reducible refine HC.out.mono ?_); rintro e w1 ⟨v1, rfl, O1, hb1⟩
               obtain ⟨A1, c1, e1, hl1, hm1, hd1⟩ := O1.src
               subst e1)
  go_ret
  have hs := hb1.size
  rw [show (w.alloc (.cells #[.slice A n c] 31)).heap.size = w.heap.size + 1 by simp] at hs
  refine ⟨w1.heap.size, rfl, by omega, ⟨col_new f i (by omega), fed_len [] p (by simp), fed_all (fun x hx => by cases hx) hp, A1, c1, Blk.new w1 _ _, hl1, hm1, fun h0 => ?_⟩, ?_⟩
  · obtain ⟨b, hb, hb0, hb1', hbs⟩ := hd1 h0
    exact ⟨b, 0, hb, col_new f i (by omega), by omega, by simp; omega, hbs.kept (Below.heap_alloc w1 _ b hb1')⟩
  · exact (((Below.refl _ _).alloc (Nat.le_refl _) _).trans (hb1.mono (by omega))).alloc (by omega) _
theorem feed_nil (v : Value) (w : World) : Calls Try.prog 28 #[.pointer none, v] w fun e w' => e = .returned (.tuple #[]) ∧ w = w' := by
  go_enter Try.func28, Try.ntmps28
  go_wp2
  go_end0
  exact ⟨rfl, rfl⟩
set_option maxHeartbeats 1000000 in
theorem feed_any (f : Nat → Nat) (i g : Nat) (L p : List Nat) (A : Option Addr) (n c : Nat) (w : World) (h : Src w f i g L) (hn : n = p.length) (hc : n ≤ c) (hp : All 256 p) (hC : C8 w A p.length p) :
    Calls Try.prog 28 #[.pointer (some ⟨g, 0, none⟩), .slice A n c] w fun e w' => e = .returned (.tuple #[]) ∧ Src w' (col f w.heap.size i) i g (fed L p) ∧ Far (fun k => k = g) w w' := by
  obtain ⟨h1, h2, h3, AL, cL, hB, hcL, hmL, hd⟩ := h
  have hCL : C8 w AL L.length L := by
    rcases Nat.eq_zero_or_pos L.length with h0 | h0
    · have : L = [] := List.eq_nil_of_length_eq_zero h0
      subst this
      exact C8.nil w AL
    · obtain ⟨b, o, rfl, _, _, _, hbs⟩ := hd h0
      exact C8.of_Bs hbs (by omega)
  have hcall : Calls Try.prog 34 #[.slice (some ⟨w.heap.size, 0, none⟩) 2 2] (w.alloc (.cells #[.slice AL L.length cL, .slice A n c] 31)) fun e w' => ∃ v, e = .returned v ∧ Own w' (w.heap.size + 1) v (fed L p) ∧ Below (w.heap.size + 1) (w.alloc (.cells #[.slice AL L.length cL, .slice A n c] 31)) w' := by
    have h := joined_any w.heap.size 2 #[.slice AL L.length cL, .slice A n c] [L, p] (w.alloc (.cells #[.slice AL L.length cL, .slice A n c] 31)) rfl (by decide) (Blk.new w _ _) (fun k q hk => by
      rcases k with _ | _ | k
      · obtain rfl := Option.some.inj hk
        exact ⟨AL, cL, rfl, by omega, hCL.below ((Below.refl _ _).alloc (Nat.le_refl _) _)⟩
      · obtain rfl := Option.some.inj hk
        exact ⟨A, c, by rw [hn]; rfl, by omega, hC.below ((Below.refl _ _).alloc (Nat.le_refl _) _)⟩
      · simp at hk)
    rw [joins_two L p h2] at h
    simpa using h
  have HC := Lib.hid hcall
  obtain ⟨l, hl⟩ : ∃ l, l = L.length := ⟨_, rfl⟩
  have g0 : w.cell? ⟨g, 0, none⟩ = some (.slice AL l cL) := by rw [hl]; exact hB.cell 0
  rw [← hl] at HC
  have hgl := hB.lt
  have HB := Lib.hid hB; have H1 := Lib.hid h1; have H2 := Lib.hid h2; have H3 := Lib.hid h3
  have HP := Lib.hid hp
  clear hcall hn hl hB h1 h2 h3 hd hCL hC hp
  go_enter Try.func28, Try.ntmps28
  go_wp2_with (go_at_call 34; (with_reducible refine HC.out.mono ?_); rintro e w1 ⟨v1, rfl, O1, hb1⟩
               obtain ⟨A1, c1, e1, hl1, hm1, hd1⟩ := O1.src
               subst e1
               have hs := hb1.size
               have hs1 : w.heap.size + 1 ≤ w1.heap.size := by simpa using hs
               have B1 : Blk w1 g 59 _ := (hb1.block g (by omega)).trans (HB.out.alloc _)
               have hB1 := Lib.hid B1
               have gc := B1.cell 0
               have fz := B1.frozen 0
               clear hs B1)
  go_end0
  have hB2 := hB1.out.set_ 0 (.slice A1 (fed L p).length c1)
  refine ⟨rfl, ⟨(col_ext w f i g hgl).trans H1.out, fed_len L p H2.out, fed_all H3.out HP.out, A1, c1, hB2, hl1, hm1, fun h0 => ?_⟩, ?_⟩
  · obtain ⟨b, hb, hb0, hb1', hbs⟩ := hd1 h0
    exact ⟨b, 0, hb, col_new f i (by omega), by omega, by simpa using hb1', hbs.kept (Below.heap_setCell w1 ⟨g, 0, none⟩ _ b (show b ≠ g by omega))⟩
  · have hf : Far (fun _ => False) w w1 := (Far.alloc _ w _).trans (Far.of_below (hb1.mono (by simp))) (fun _ _ h => h)
    exact (hf.mono (fun _ _ h => h.elim)).trans (Far.set_ w1 g 0 _) (fun n _ h => h)
end Go.Proofs.Ytaeipffenlkjpaa.Sha
