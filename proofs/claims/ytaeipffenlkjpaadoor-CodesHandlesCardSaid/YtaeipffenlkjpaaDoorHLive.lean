/-
  live, Normal, Show, User, NewSource of the program, in CodesHandles' seat (the codes' own texts, by extract.py).
-/
import Derived.Test.YtaeipffenlkjpaaDoorHSame
import Derived.ArgAppend
namespace Go.Proofs.YtaeipffenlkjpaaDoor.Sha
open Go.RowKit Go.Proofs.YtaeipffenlkjpaaDoorW.PrintWords Go.Proofs.YtaeipffenlkjpaaDoor.PAll Go.Proofs.YtaeipffenlkjpaaDoor.Plain Go.Proofs.YtaeipffenlkjpaaDoor.Cod
set_option linter.unusedVariables false
set_option linter.unusedSimpArgs false
def Lt (b : Nat) (l : List Nat) : Prop := ∀ x ∈ l, x < b
theorem Lt.nil (b : Nat) : Lt b [] := fun x hx => by simp at hx
theorem bt_sN (s : ByteArray) (i : Nat) (h : i < s.size) : bt s (i : Int) = (((sN s).getD i 0 : Nat) : Int) := by
  have h' : i < (sN s).length := by rw [sN_len]; exact h
  rw [List.getD_eq_getElem?_getD, List.getElem?_eq_getElem h']
  unfold bt
  rw [dif_pos (by simpa using h)]
  simp [sN]
  rfl
theorem drop_at {d : List Nat} {p : List Nat} {i x : Nat} (h : p.drop i = x :: d) : i < p.length ∧ p.getD i 0 = x ∧ p.drop (i + 1) = d := by
  have hl : i < p.length := by
    rcases Nat.lt_or_ge i p.length with h1 | h1
    · exact h1
    · rw [List.drop_eq_nil_of_le h1] at h; cases h
  rw [List.drop_eq_getElem_cons hl] at h
  injection h with h1 h2
  exact ⟨hl, by rw [List.getD_eq_getElem?_getD, List.getElem?_eq_getElem hl]; exact h1, h2⟩
theorem drop_none {p : List Nat} {i : Nat} (h : p.drop i = []) : p.length ≤ i := by
  rcases Nat.lt_or_ge i p.length with h1 | h1
  · rw [List.drop_eq_getElem_cons h1] at h; cases h
  · exact h1
theorem toI_push (out : List Nat) (x : Nat) : toI out ++ [(x : Int)] = toI (out ++ [x]) := by simp [toI]
/-- Bytes as a text. -/
def txt (p : List Nat) : ByteArray := strOfNums (toI p)
theorem sN_txt (p : List Nat) (hp : Lt 256 p) : sN (txt p) = p := by
  unfold sN txt strOfNums toI
  simp only [List.map_map]
  conv => rhs; rw [← List.map_id p]
  refine List.map_congr_left fun x hx => ?_
  have := hp x hx
  simp
  omega
theorem txt_sN (s : ByteArray) : txt (sN s) = s := by
  obtain ⟨⟨l⟩⟩ := s
  unfold sN txt strOfNums toI
  simp only [List.map_map]
  congr 2
  conv => rhs; rw [← List.map_id l]
  refine List.map_congr_left fun x hx => ?_
  simp
theorem txt_size (p : List Nat) : (txt p).size = p.length := by
  unfold txt strOfNums toI
  show List.length _ = _
  simp
/-- Outside S nothing that lay is turned. -/
def Far (S : Nat → Prop) (w w' : World) : Prop := w'.os = w.os ∧ w'.tape = w.tape ∧ w'.output = w.output ∧ w.heap.size ≤ w'.heap.size ∧ ∀ k, k < w.heap.size → ¬ S k → w'.heap[k]? = w.heap[k]?
theorem Far.refl (S : Nat → Prop) (w : World) : Far S w w := ⟨rfl, rfl, rfl, Nat.le_refl _, fun _ _ _ => rfl⟩
theorem Far.size {S : Nat → Prop} {w w' : World} (h : Far S w w') : w.heap.size ≤ w'.heap.size := h.2.2.2.1
theorem Far.at_ {S : Nat → Prop} {w w' : World} (h : Far S w w') {k : Nat} (hk : k < w.heap.size) (hs : ¬ S k) : w'.heap[k]? = w.heap[k]? := h.2.2.2.2 k hk hs
theorem Far.trans {S S' : Nat → Prop} {a b c : World} (h : Far S a b) (k : Far S' b c) (hs : ∀ n, n < a.heap.size → S' n → S n) : Far S a c :=
  ⟨k.1.trans h.1, k.2.1.trans h.2.1, k.2.2.1.trans h.2.2.1, Nat.le_trans h.size k.size, fun n hn hS => (k.at_ (Nat.lt_of_lt_of_le hn h.size) (fun e => hS (hs n hn e))).trans (h.at_ hn hS)⟩
theorem Far.mono {S S' : Nat → Prop} {w w' : World} (h : Far S w w') (hs : ∀ n, n < w.heap.size → S n → S' n) : Far S' w w' :=
  ⟨h.1, h.2.1, h.2.2.1, h.size, fun n hn hS => h.at_ hn (fun e => hS (hs n hn e))⟩
theorem Far.of_below {S : Nat → Prop} {w w' : World} (h : Below w.heap.size w w') : Far S w w' := ⟨h.os, h.tape, h.output, h.size, fun k hk _ => h.block k hk⟩
theorem Far.below {S : Nat → Prop} {w w' : World} (h : Far S w w') {B : Nat} (hs : ∀ n, n < B → ¬ S n) (hB : B ≤ w.heap.size) : Below B w w' :=
  ⟨h.1, h.2.1, h.2.2.1, h.size, fun k hk => h.at_ (Nat.lt_of_lt_of_le hk hB) (hs k hk)⟩
theorem Far.of_grown {w w' : World} {row : Option Nat} (h : w.grownBy w' row) : Far (fun k => row = some k) w w' :=
  ⟨h.os, h.tape, h.output, h.size, fun k hk hs => h.block k hk (fun e => hs e.symm)⟩
theorem Far.set_ (w : World) (g i : Nat) (u : Value) : Far (fun k => k = g) w (w.setCell ⟨g, i, none⟩ u) := by
  have hb := (Below.refl 0 w).setCell (p := ⟨g, i, none⟩) (Nat.zero_le _) u
  exact ⟨hb.os, hb.tape, hb.output, hb.size, fun k hk hs => Below.heap_setCell w ⟨g, i, none⟩ u k hs⟩
theorem Far.alloc (S : Nat → Prop) (w : World) (o : Obj) : Far S w (w.alloc o) := Far.of_below ((Below.refl _ _).alloc (Nat.le_refl _) _)
/-- f' marks as f what lay. -/
def Ext (w : World) (f f' : Nat → Nat) : Prop := ∀ k, k < w.heap.size → f' k = f k
theorem Ext.refl (w : World) (f : Nat → Nat) : Ext w f f := fun _ _ => rfl
theorem Ext.trans {a b : World} {f f' f'' : Nat → Nat} (h : Ext a f f') (k : Ext b f' f'') (hs : a.heap.size ≤ b.heap.size) : Ext a f f'' := fun n hn => (k n (Nat.lt_of_lt_of_le hn hs)).trans (h n hn)
def col (f : Nat → Nat) (n i : Nat) : Nat → Nat := fun k => if k < n then f k else i
theorem col_ext (w : World) (f : Nat → Nat) (i : Nat) : Ext w f (col f w.heap.size i) := fun k hk => if_pos hk
theorem col_new (f : Nat → Nat) {n k : Nat} (i : Nat) (h : n ≤ k) : col f n i k = i := if_neg (by omega)
theorem Bs.kept {w w' : World} {b o : Nat} {p : List Nat} (h : Bs w b o p) (hb : w'.heap[b]? = w.heap[b]?) : Bs w' b o p := fun j hj => (World.cell?_of_block (a := ⟨b, o + j, none⟩) hb).trans (h j hj)
/-- A source of the program: its bytes lie in marked blocks. -/
def Src (w : World) (f : Nat → Nat) (i g : Nat) (L : List Nat) : Prop :=
  f g = i ∧ L.length ≤ 4096 ∧ All 256 L ∧ ∃ A c, Blk w g 53 #[.slice A L.length c] ∧ L.length ≤ c ∧ c ≤ 9223372036854775807 ∧ (0 < L.length → ∃ b o, A = some ⟨b, o, none⟩ ∧ f b = i ∧ b ≠ g ∧ b < w.heap.size ∧ Bs w b o L)
theorem Src.keep {w w' : World} {f f' : Nat → Nat} {i g : Nat} {L : List Nat} (h : Src w f i g L) (he : Ext w f f') (hs : w.heap.size ≤ w'.heap.size) (hk : ∀ k, k < w.heap.size → f k = i → w'.heap[k]? = w.heap[k]?) : Src w' f' i g L := by
  obtain ⟨h1, h2, h3, A, c, hB, hc, hm, hd⟩ := h
  refine ⟨(he g hB.lt).trans h1, h2, h3, A, c, (hk g hB.lt h1).trans hB, hc, hm, fun h0 => ?_⟩
  obtain ⟨b, o, e, hf, hne, hlt, hbs⟩ := hd h0
  exact ⟨b, o, e, (he b hlt).trans hf, hne, Nat.lt_of_lt_of_le hlt hs, hbs.kept (hk b hlt hf)⟩
theorem Src.far {w w' : World} {f f' : Nat → Nat} {i g : Nat} {L : List Nat} {S : Nat → Prop} (h : Src w f i g L) (he : Ext w f f') (hF : Far S w w') (hS : ∀ k, k < w.heap.size → f k = i → ¬ S k) : Src w' f' i g L :=
  h.keep he hF.size fun k hk hf => hF.at_ hk (hS k hk hf)
theorem Src.below {w w' : World} {f : Nat → Nat} {i g : Nat} {L : List Nat} (h : Src w f i g L) (hb : Below w.heap.size w w') : Src w' f i g L := h.keep (Ext.refl _ _) hb.size fun k hk _ => hb.block k hk
theorem Src.lt {w : World} {f : Nat → Nat} {i g : Nat} {L : List Nat} (h : Src w f i g L) : g < w.heap.size := by
  obtain ⟨_, _, _, A, c, hB, _⟩ := h
  exact hB.lt
theorem sliced_one (A : Option Addr) (n c : Nat) (hn : n + 1 ≤ c) : ∃ A', sliced A 1 (n + 1) c 1 = .slice A' n (c - 1) ∧ (0 < n → ∀ b o, A = some ⟨b, o, none⟩ → A' = some ⟨b, o + 1, none⟩) := by
  unfold sliced
  by_cases h1 : c = 1
  · rw [if_pos h1]
    exact ⟨A, by simp, fun h0 => absurd h0 (by omega)⟩
  · rw [if_neg h1]
    refine ⟨A.map (·.add (1 * 1)), by simp, fun h0 b o e => ?_⟩
    rw [e]
    rfl
theorem left_nil (w : World) : Calls Tryd.prog 16 #[.pointer none] w fun e w' => e = .returned (.int .i64 0) ∧ w = w' := by
  go_enter Tryd.func16, Tryd.ntmps16
  go_wp2
  go_ret
  exact ⟨rfl, rfl⟩
theorem left_any (f : Nat → Nat) (i g : Nat) (L : List Nat) (w : World) (h : Src w f i g L) : Calls Tryd.prog 16 #[.pointer (some ⟨g, 0, none⟩)] w fun e w' => e = .returned (.int .i64 (L.length : Int)) ∧ w = w' := by
  obtain ⟨h1, h2, h3, A, c, hB, hc, hm, hd⟩ := h
  have g0 : w.cell? ⟨g, 0, none⟩ = some (.slice A L.length c) := hB.cell 0
  obtain ⟨n, hn⟩ : ∃ n, n = L.length := ⟨_, rfl⟩
  rw [← hn] at g0 ⊢
  clear h1 h2 h3 hB hc hm hd hn
  go_enter Tryd.func16, Tryd.ntmps16
  go_wp2
  go_ret
  exact ⟨rfl, rfl⟩
theorem byte_nil (w : World) (a : Option Addr) (h : a = none ∨ ∃ f i g, Src w f i g [] ∧ a = some ⟨g, 0, none⟩) : Calls Tryd.prog 24 #[.pointer a] w fun e w' => e = .returned (.tuple #[.int .u8 0, .int .i64 90]) ∧ w = w' := by
  have hcall : Calls Tryd.prog 16 #[.pointer a] w fun e w' => e = .returned (.int .i64 0) ∧ w = w' := by
    rcases h with h | ⟨f, i, g, h, e⟩
    · rw [h]; exact left_nil w
    · rw [e]; exact left_any f i g [] w h
  clear h
  go_enter Tryd.func24, Tryd.ntmps24
  go_wp2_with (go_at_call 16; refine hcall.mono ?_; rintro e w1 ⟨rfl, rfl⟩)
  go_ret2
  exact ⟨rfl, rfl⟩
set_option maxHeartbeats 400000 in
theorem byte_cons (f : Nat → Nat) (i g x : Nat) (L : List Nat) (w : World) (h : Src w f i g (x :: L)) : Calls Tryd.prog 24 #[.pointer (some ⟨g, 0, none⟩)] w fun e w' => e = .returned (.tuple #[.int .u8 (x : Int), .int .i64 0]) ∧ Src w' f i g L ∧ Far (fun k => k = g) w w' := by
  have hcall := left_any f i g (x :: L) w h
  obtain ⟨h1, h2, h3, A, c, hB, hc, hm, hd⟩ := h
  obtain ⟨b, o, rfl, hf, hne, hlt, hbs⟩ := hd (by simp)
  obtain ⟨A', hA, hA'⟩ := sliced_one (some ⟨b, o, none⟩) L.length c (by simpa using hc)
  have hsl : ∀ W : World, (Instr.slice 32 (.slice (some ⟨b, o, none⟩) (L.length + 1) c) (some (.int .i64 1)) none none).run Tryd.prog W = .ok (.slice A' L.length (c - 1)) W := fun W => by
    rw [← hA]
    go_simp
    intro h
    omega
  have g0 : w.cell? ⟨g, 0, none⟩ = some (.slice (some ⟨b, o, none⟩) (L.length + 1) c) := hB.cell 0
  have gx : w.cell? ⟨b, o, none⟩ = some (.int .u8 (x : Int)) := hbs 0 (by simp)
  have fz := hB.frozen 0
  have HC := Lib.hid hc; have HB := Lib.hid hB; have HA := Lib.hid hA'; have HBS := Lib.hid hbs; have H1 := Lib.hid h1; have H3 := Lib.hid h3; have HF := Lib.hid hf
  obtain ⟨n, hn⟩ : ∃ n, n = L.length := ⟨_, rfl⟩
  rw [List.length_cons, ← hn] at hcall
  rw [← hn] at hsl g0
  have HN := Lib.hid hn
  have i0 : 0 < n + 1 := by omega
  clear hc hB hA hA' hbs h1 h3 hd hn hf
  go_enter Tryd.func24, Tryd.ntmps24
  go_wp2_with (go_at_call 16; refine hcall.mono ?_; rintro e w1 ⟨rfl, rfl⟩)
  go_ret2
  have hB' := HB.out.set_ 0 (.slice A' n (c - 1))
  refine ⟨rfl, ⟨H1.out, by have := h2; simp at this; omega, fun y hy => H3.out y (by simp [hy]), A', c - 1, by rw [← HN.out]; exact hB', by have := HC.out; simp at this; omega, by omega, fun h0 => ?_⟩, Far.set_ _ _ _ _⟩
  refine ⟨b, o + 1, HA.out h0 b o rfl, HF.out, hne, by simpa using hlt, ?_⟩
  have hbs : Bs w b (o + 1) L := fun j hj => by
    have h := HBS.out (j + 1) (by simp; omega)
    rw [show o + 1 + j = o + (j + 1) by omega, h]
    rfl
  exact hbs.kept (Below.heap_setCell w ⟨g, 0, none⟩ _ b hne)
/-- Lists one behind the other, as many bytes as a source holds. -/
def joins (ps : List (List Nat)) : List Nat := ps.foldl fed []
theorem foldl_len (ps : List (List Nat)) : ∀ L : List Nat, L.length ≤ 4096 → (ps.foldl fed L).length ≤ 4096 := by
  induction ps with
  | nil => exact fun L h => h
  | cons p ps ih => exact fun L h => ih _ (fed_len L p h)
theorem joins_len (ps : List (List Nat)) : (joins ps).length ≤ 4096 := foldl_len ps [] (by simp)
theorem joins_take (ps : List (List Nat)) (k : Nat) (p : List Nat) (h : ps[k]? = some p) : joins (ps.take (k + 1)) = fed (joins (ps.take k)) p := by
  obtain ⟨hl, e⟩ := List.getElem?_eq_some_iff.1 h
  unfold joins
  rw [List.take_succ_eq_append_getElem hl, List.foldl_append, e]
  rfl
set_option maxRecDepth 100000 in
set_option maxHeartbeats 1000000 in
theorem joined_any (pb N : Nat) (vs : Array Value) (ps : List (List Nat)) (w : World) (hN : N = ps.length) (hs : N ≤ 1000) (hB : Blk w pb 32 vs)
    (hv : ∀ (k : Nat) (p : List Nat), ps[k]? = some p → ∃ A c, vs[k]? = some (Value.slice A p.length c) ∧ p.length ≤ c ∧ C8 w A p.length p) :
    Calls Tryd.prog 23 #[.slice (some ⟨pb, 0, none⟩) N N] w fun e w' => ∃ v, e = .returned v ∧ Own w' w.heap.size v (joins ps) ∧ Below w.heap.size w w' := by
  have HV := Lib.hid hv; have HN := Lib.hid hN; have HB := Lib.hid hB; have hlt := hB.lt
  clear hv hN hB
  go_enter Tryd.func23, Tryd.ntmps23
  go_wp2
  go_loopw [3, 8] (fun v i wr => ∃ k : Nat, k ≤ N ∧ i = .int .i64 (k : Int) ∧ Below w.heap.size w wr ∧ Own wr w.heap.size v (joins (ps.take k))) (fun _ i _ => N - (intOf i).toNat)
  case atStart => exact ⟨0, by omega, rfl, Below.refl _ _, Own.nil _ _⟩
  case round =>
    obtain ⟨k, hk, rfl, hbel, O⟩ := hrel
    by_cases hlt2 : k < N
    · obtain ⟨p, hp⟩ : ∃ p, ps[k]? = some p := ⟨_, List.getElem?_eq_getElem (by rw [← HN.out]; exact hlt2)⟩
      obtain ⟨A, c, h1, h2, h4⟩ := HV.out k p hp
      have g0 : wr.cell? ⟨pb, k, none⟩ = some (.slice A p.length c) := (hbel.cell (p := ⟨pb, k, none⟩) hlt).trans ((HB.out.cell k).trans h1)
      obtain ⟨acc, hacc⟩ : ∃ acc, acc = joins (ps.take k) := ⟨_, rfl⟩
      have hal : acc.length ≤ 4096 := by rw [hacc]; exact joins_len _
      have hnext : joins (ps.take (k + 1)) = acc ++ p.take (4096 - acc.length) := by rw [joins_take ps k p hp, hacc]; rfl
      rw [← hacc] at O
      obtain ⟨Av, cv, hve, hcv, hCv⟩ := O.arg
      have hve' := hve
      obtain ⟨a, ha⟩ : ∃ a, a = acc.length := ⟨_, rfl⟩
      obtain ⟨n, hn⟩ : ∃ n, n = p.length := ⟨_, rfl⟩
      rw [← ha] at hal hnext hve
      rw [← hn] at g0 h2 h4
      obtain ⟨m, hm, hmn, hma, hmt⟩ : ∃ m : Nat, ((if (4096 : Int) - (a : Int) < (n : Int) then (4096 : Int) - (a : Int) else (n : Int)) = (m : Int)) ∧ m ≤ n ∧ m ≤ 4096 ∧ p.take (4096 - a) = p.take m := by
        by_cases h : (4096 : Int) - (a : Int) < (n : Int)
        · exact ⟨4096 - a, by rw [if_pos h]; omega, by omega, by omega, rfl⟩
        · exact ⟨n, by rw [if_neg h], by omega, by omega, by rw [List.take_of_length_le (by omega), List.take_of_length_le (by omega)]⟩
      have hCm := (h4.below hbel).take m hmn
      have hml : (p.take m).length = m := by rw [List.length_take]; omega
      have hmin : ∀ (ts : Array TypeId) (t : TypeId) (W : World), (Builtin.min_ ts t #[.int .i64 (n : Int), .int .i64 ((4096 : Int) - (a : Int))]).run Tryd.prog W = .ok (.int .i64 (m : Int)) W := fun ts t W => by
        rw [run_min_int2, hm]
      have HC := Lib.hid hCm; have HO := Lib.hid (show Own wr w.heap.size (.slice Av a cv) acc by rw [ha, ← hve']; exact O); have HX := Lib.hid hnext; have HA := Lib.hid ha; have HT := Lib.hid hmt; have HML := Lib.hid hml
      clear hve'
      clear hCm hnext ha hm hmt hml hacc hn h1 h4 hp hCv O
      subst hve
      have j0 : (m : Int) ≤ (n : Int) := by omega
      have j1 : (m : Int) ≤ (c : Int) := by omega
      have hC8 : C8 wr A (p.take m).length (p.take m) := by rw [HML.out]; exact HC.out
      have HC8 := Lib.hid hC8
      clear hC8
      go_wp2_with (at_builtin; go_loud (refine wpl_append rfl _ _ _ rfl info_byte Tryd.underlying32 w.heap.size _ acc rfl HO.out A c m (p.take m) rfl HML.out.symm HC8.out (by rw [HML.out, ← HA.out]; omega) hbel.size ?_); intro v' w1 O1 G1 _)
      go_roundw
      case rel => 
        refine ⟨k + 1, by omega, by go_num, hbel.grown G1 hbel.size (fun k hk => (HO.out.lt k hk).1), ?_⟩
        rw [HX.out, HT.out]
        exact O1
      case measure => simp [intOf]; omega
    · go_wp2
      go_ret
      refine ⟨_, rfl, ?_, hbel⟩
      rw [List.take_of_length_le (by rw [← HN.out]; omega)] at O
      exact O
theorem Own.src {w : World} {base : Nat} {v : Value} {L : List Nat} (h : Own w base v L) : ∃ A c, v = .slice A L.length c ∧ L.length ≤ c ∧ c ≤ 9223372036854775807 ∧ (0 < L.length → ∃ b, A = some ⟨b, 0, none⟩ ∧ base ≤ b ∧ b < w.heap.size ∧ Bs w b 0 L) := by
  rcases h.2 with ⟨e, h0⟩ | ⟨g, cap, cur, e, hg, hh, a1, a2, a3, a4⟩
  · exact ⟨none, 0, by rw [e, h0], by omega, by omega, fun hp => by omega⟩
  · refine ⟨some ⟨g, 0, none⟩, cap, e, a1, by unfold maxLen at a2; omega, fun hp => ⟨g, rfl, hg, (show Blk w g 5 cur from hh).lt, ?_⟩⟩
    subst e
    obtain ⟨_, _, hC⟩ := h.c8
    obtain ⟨b, o, e, _, hbs⟩ := hC.at_ hp
    injection e with e
    injection e with e1 e2 e3
    subst e1 e2
    exact hbs
theorem joins_one (p : List Nat) : joins [p] = fed [] p := rfl
set_option maxHeartbeats 1000000 in
theorem newSource_any (f : Nat → Nat) (i : Nat) (p : List Nat) (A : Option Addr) (n c : Nat) (w : World) (hn : n = p.length) (hc : n ≤ c) (hp : All 256 p) (hC : C8 w A p.length p) :
    Calls Tryd.prog 13 #[.slice A n c] w fun e w' => ∃ g, e = .returned (.pointer (some ⟨g, 0, none⟩)) ∧ w.heap.size ≤ g ∧ Src w' (col f w.heap.size i) i g (fed [] p) ∧ Below w.heap.size w w' := by
  have hcall : Calls Tryd.prog 23 #[.slice (some ⟨w.heap.size, 0, none⟩) 1 1] (w.alloc (.cells #[.slice A n c] 32)) fun e w' => ∃ v, e = .returned v ∧ Own w' (w.heap.size + 1) v (fed [] p) ∧ Below (w.heap.size + 1) (w.alloc (.cells #[.slice A n c] 32)) w' := by
    have h := joined_any w.heap.size 1 #[.slice A n c] [p] (w.alloc (.cells #[.slice A n c] 32)) rfl (by decide) (Blk.new w _ _) (fun k q hk => by
      rcases k with _ | k
      · obtain rfl := Option.some.inj hk
        exact ⟨A, c, by rw [hn]; rfl, by omega, hC.below ((Below.refl _ _).alloc (Nat.le_refl _) _)⟩
      · simp at hk)
    rw [joins_one] at h
    simpa using h
  have HC := Lib.hid hcall
  clear hcall hn
  go_enter Tryd.func13, Tryd.ntmps13
  go_wp2_with (go_at_call 23; (with_reducible refine HC.out.mono ?_); rintro e w1 ⟨v1, rfl, O1, hb1⟩
               obtain ⟨A1, c1, e1, hl1, hm1, hd1⟩ := O1.src
               subst e1)
  go_ret
  have hs := hb1.size
  rw [show (w.alloc (.cells #[.slice A n c] 32)).heap.size = w.heap.size + 1 by simp] at hs
  refine ⟨w1.heap.size, rfl, by omega, ⟨col_new f i (by omega), fed_len [] p (by simp), fed_all (fun x hx => by cases hx) hp, A1, c1, Blk.new w1 _ _, hl1, hm1, fun h0 => ?_⟩, ?_⟩
  · obtain ⟨b, hb, hb0, hb1', hbs⟩ := hd1 h0
    exact ⟨b, 0, hb, col_new f i (by omega), by omega, by simp; omega, hbs.kept (Below.heap_alloc w1 _ b hb1')⟩
  · exact (((Below.refl _ _).alloc (Nat.le_refl _) _).trans (hb1.mono (by omega))).alloc (by omega) _
theorem Own.farK {w w' : World} {base g : Nat} {v : Value} {p : List Nat} (h : Own w base v p) (F : Far (fun k => k = g) w w') (hg : g < base) : Own w' base v p :=
  own_move h (fun k hk => F.at_ (own_lt h k hk) (by have := own_base h k hk; omega))
theorem Src.all {w : World} {f : Nat → Nat} {i g : Nat} {L : List Nat} (h : Src w f i g L) : All 256 L := h.2.2.1
theorem LS_get : ∀ k, k < 20 → (LS.data.toList.getD k 0).toNat = lets.getD k 0 := by decide +kernel
theorem LS_idx (k : Nat) (W : World) (hk : k < 20) : (Instr.index 9 (.string ⟨#[66, 67, 68, 70, 71, 72, 74, 75, 76, 77, 78, 80, 81, 82, 83, 84, 86, 87, 88, 90]⟩) (.int .u8 (k : Int))).run Tryd.prog W = .ok (.int .u8 (lets.getD k 0 : Nat)) W := by
  have e := LS_get k hk
  have hz := LS_size
  show (Instr.index 9 (.string LS) (.int .u8 (k : Int))).run Tryd.prog W = _
  obtain ⟨S, hS⟩ : ∃ S, S = LS := ⟨_, rfl⟩
  rw [← hS] at e hz ⊢
  have hlt : k < S.size := by omega
  have e2 : (S[k]'hlt).toNat = lets.getD k 0 := by
    rw [← e, List.getD_eq_getElem?_getD, List.getElem?_eq_getElem (by simpa using hlt)]
    rfl
  rw [← e2]
  clear hS e e2 hz hk
  go_simp
set_option maxRecDepth 100000 in
set_option maxHeartbeats 2000000 in
theorem user_any (f : Nat → Nat) (i g : Nat) (L : List Nat) (w : World) (h : Src w f i g L) :
    Calls Tryd.prog 14 #[.pointer (some ⟨g, 0, none⟩)] w fun e w' => e = .returned (.tuple #[.string (txt (user [] L).1), .int .i64 ((user [] L).2.1 : Nat)]) ∧ Src w' (col f w.heap.size (i + 1)) i g (user [] L).2.2 ∧ Far (fun k => k = g) w w' := by
  have hg := h.lt
  have hL := h.all
  have h0 : Src w (col f w.heap.size (i + 1)) i g L := h.far (col_ext _ _ _) (Far.refl (fun _ => False) w) (fun _ _ _ hf => hf)
  have hb : ∀ (k : Nat) (v : Value) (p : List Nat) (W : World), Own W w.heap.size v p → k < W.heap.size → col f w.heap.size (i + 1) k = i → some k ≠ v.ownBlock := fun k v p W O hk he e => by
    rw [col_new f (i + 1) (own_base O k e.symm)] at he
    omega
  obtain ⟨T, hT⟩ : ∃ T, user [] L = T := ⟨_, rfl⟩
  rw [hT]
  have HL := Lib.hid hL; have HB := Lib.hid hb
  obtain ⟨f', hf'⟩ : ∃ f', f' = col f w.heap.size (i + 1) := ⟨_, rfl⟩
  rw [← hf'] at h0 HB ⊢
  have hidx := fun (k : Nat) (W : World) (hk : k < 20) => LS_idx k W hk
  have HI := Lib.hid hidx
  clear h hL hb hf' hidx
  go_enter Tryd.func14, Tryd.ntmps14
  go_wp2
  go_loopg [4, 5, 6] L.length (fun gk v v5 v6 wr => ∃ acc M, M.length = gk ∧ ((acc.length ≤ 7 ∧ user acc M = T) ∨ (acc.length = 8 ∧ T = (acc, 0, M))) ∧ (∀ x ∈ M, x < 256) ∧ Src wr f' i g M ∧ Own wr w.heap.size v acc ∧ Far (fun k => k = g) w wr)
  case atStart => exact ⟨[], L, rfl, .inl ⟨by simp, hT⟩, HL.out, h0, Own.nil _ _, Far.refl _ _⟩
  case round =>
    clear h0 hT
    obtain ⟨acc, M, hMl, hor, hM, S0, O, F⟩ := hrel
    obtain ⟨Av, cv, hve, hcv, hCv⟩ := O.arg
    rcases hor with ⟨h7, hT⟩ | ⟨h8, hT⟩
    · cases M with
      | nil =>
        have e : T = ([], 90, []) := by rw [← hT]; rfl
        have hcall := byte_nil wr (some ⟨g, 0, none⟩) (.inr ⟨f', i, g, S0, rfl⟩)
        have HE := Lib.hid e; have HS := Lib.hid S0
        have i1 : (acc.length : Int) < 8 := by omega
        clear O hCv hT e S0 hMl
        subst hve
        go_wp2_with (go_at_call 24; (with_reducible refine hcall.mono ?_); rintro e w1 ⟨rfl, rfl⟩)
        go_ret2
        rw [HE.out]
        exact ⟨rfl, HS.out, F⟩
      | cons x M =>
        have hcall := byte_cons f' i g x M wr S0
        have hx : x < 256 := hM x (by simp)
        have HM := Lib.hid hM; have HO := Lib.hid O; have HT := Lib.hid hT; have HL2 := Lib.hid hMl
        have i1 : (acc.length : Int) < 8 := by omega
        have i2 : (0 : Int) ≤ (x : Int) := by omega
        have i3 : (x : Int) < 256 := by omega
        obtain ⟨gk', hgk⟩ : ∃ gk', gk = gk' + 1 := ⟨M.length, by simpa using hMl.symm⟩
        have HGK := Lib.hid hgk
        subst hve
        clear O hCv hT S0 hMl hM
        by_cases hx2 : x < 240
        · have d2 : decide ((x : Int) < 240) = true := decide_eq_true (by omega)
          obtain ⟨y, hy⟩ : ∃ y, y = lets.getD (x % 20) 0 := ⟨_, rfl⟩
          have hix : ∀ W : World, (Instr.index 9 (.string ⟨#[66, 67, 68, 70, 71, 72, 74, 75, 76, 77, 78, 80, 81, 82, 83, 84, 86, 87, 88, 90]⟩) (.int .u8 ((x : Int) % 20))).run Tryd.prog W = .ok (.int .u8 (y : Int)) W := fun W => by
            rw [hy, show (x : Int) % 20 = ((x % 20 : Nat) : Int) by omega]
            exact HI.out (x % 20) W (Nat.mod_lt _ (by decide))
          have HY := Lib.hid hy
          clear hy
          subst hgk
          go_wp2_with (first
            | (go_at_call 24; (with_reducible refine hcall.mono ?_); rintro e w1 ⟨rfl, S1, F1⟩
               have O1 := HO.out.farK F1 hg
               have hz := F1.size)
            | (at_builtin; go_loud (refine wpl_append rfl _ _ _ rfl info_byte Tryd.underlying32 w.heap.size _ acc rfl (O1.alloc _) _ _ _ [y] rfl rfl (C8.one_ _ _ _ rfl _ rfl) (by rw [List.length_singleton]; omega) (by have := F.size; simp; omega) ?_); intro v' w2 O2 G2 _))
          go_roundg gk'
          case rel =>
            have Fa := Far.alloc (fun _ => False) w1 (.cells #[.int .u8 (y : Int)] 5)
            have S2 : Src (w1.alloc (.cells #[.int .u8 (y : Int)] 5)) f' i g M := S1.far (Ext.refl _ _) Fa (fun _ _ _ h => h)
            have S3 : Src w2 f' i g M := S2.keep (Ext.refl _ _) G2.size (fun q hq he => G2.block q hq (HB.out q _ _ _ (O1.alloc _) hq he))
            refine ⟨acc ++ [y], M, by have := HL2.out; simpa using this, ?_, fun z hz => HM.out z (by simp [hz]), S3, O2, ?_⟩
            · have hT := HT.out
              unfold user at hT
              rw [if_pos hx2, ← HY.out] at hT
              by_cases h8 : acc.length = 7
              · rw [if_pos h8] at hT
                exact .inr ⟨by simp; omega, hT.symm⟩
              · rw [if_neg h8] at hT
                exact .inl ⟨by simp; omega, hT⟩
            · have F2 : Far (fun k => k = g) w w1 := F.trans F1 (fun _ _ h => h)
              have F3 : Far (fun k => k = g) w _ := F2.trans Fa (fun _ _ h => h.elim)
              refine F3.trans (Far.of_grown G2) (fun q hq e => ?_)
              have := own_base (O1.alloc (.cells #[.int .u8 (y : Int)] 5)) q e
              omega
          case measure => omega
        · have d2 : decide ((x : Int) < 240) = false := decide_eq_false (by omega)
          subst hgk
          go_wp2_with (go_at_call 24; (with_reducible refine hcall.mono ?_); rintro e w1 ⟨rfl, S1, F1⟩)
          go_roundg gk'
          case rel =>
            refine ⟨acc, M, by have := HL2.out; simpa using this, .inl ⟨h7, ?_⟩, fun z hz => HM.out z (by simp [hz]), S1, HO.out.farK F1 hg, F.trans F1 (fun _ _ h => h)⟩
            rw [← HT.out]
            conv => rhs; unfold user
            rw [if_neg hx2]
          case measure => omega
    · have HS := Lib.hid S0
      have hcv := Kd.C_string (P := Tryd.prog) (w := wr) (A := Av) (c := cv) Tryd.underlying32 Tryd.underlying5 Tryd.underlying9 (show Kd.C (Kd.int .u8) wr Av acc.length (toI acc) from hCv)
      have HT := Lib.hid hT
      rw [h8] at hcv hve
      clear hCv O S0 hT hMl h8
      subst hve
      go_wp2
      go_ret2
      rw [HT.out]
      exact ⟨rfl, HS.out, F⟩
theorem txt_inj {a b : ByteArray} (h : sN a = sN b) : a = b := by rw [← txt_sN a, ← txt_sN b, h]
theorem sN_app (a b : ByteArray) : sN (a ++ b) = sN a ++ sN b := by
  unfold sN
  rw [ByteArray.data_append, Array.toList_append, List.map_append]
theorem sN_lt (s : ByteArray) : Lt 256 (sN s) := fun x hx => by
  obtain ⟨b, _, rfl⟩ := List.mem_map.1 hx
  exact UInt8.toNat_lt b
theorem mark_all : ∀ c, c < 256 → decide (Lib.indexByte [32, 45, 95, 46, 47] c.toUInt8 ≥ 0) = decide (c ∈ marks) := by decide +kernel
theorem mark_f (c : Nat) (hc : c < 256) : codes_Normal_1.f (c : Int) = some (decide (c ∈ marks)) := by
  rw [← mark_all c hc]
  rfl
theorem up_256 (c : Nat) (hc : c < 256) : up c < 256 := by unfold up; split <;> omega
/-- The answer of Normal, once the text is through. -/
def ends (b : List Nat) : ByteArray × Int := if isCode b = true then (txt b, 0) else ((⟨#[]⟩ : ByteArray), 91)
theorem normal_loop (s : ByteArray) (hs : s.size ≤ 64) : ∀ (d : List Nat) (i : Nat) (acc : List Nat), (sN s).drop i = d → acc.length ≤ i → Lt 256 acc →
    Ev (fun k => codes_Normal.l0 k s (toI acc) (s.size : Int) (i : Int)) (ends (acc ++ core d))
  | [], i, acc, hd, hl, ha => by
    have hi := drop_none hd
    rw [sN_len] at hi
    rw [core_nil, List.append_nil]
    refine Ev.step (f := fun _ => some (ends acc)) (fun k => ?_) (Ev.now _)
    simp only [codes_Normal.l0]
    rw [if_neg (by omega)]
    show (codes_isCode.f (txt acc)).bind _ = _
    unfold codes_isCode.f ends
    rw [sN_txt acc ha]
    cases isCode acc <;> rfl
  | c :: d, i, acc, hd, hl, ha => by
    obtain ⟨h1, h2, h3⟩ := drop_at hd
    have hc : c < 256 := by
      have := sN_lt s c (List.mem_of_mem_drop (by rw [hd]; simp))
      exact this
    rw [sN_len] at h1
    have hb : bt s (i : Int) = (c : Int) := by rw [bt_sN s i h1, h2]
    have hw : wrap64 ((i : Int) + 1) = ((i + 1 : Nat) : Int) := by rw [w64 (by omega) (by omega)]; rfl
    have hal : (toI acc).length < 140737488355328 := by rw [toI_len]; omega
    refine Ev.step (fun k => ?_) (Ev.eq (normal_loop s hs d (i + 1) (acc ++ (if c ∈ marks then [] else [up c])) h3 (by split <;> simp <;> omega) (fun x hx => ?_)) (by rw [core_cons, List.append_assoc]))
    · simp only [codes_Normal.l0]
      rw [if_pos (by omega), if_pos (by omega), if_pos (by omega), hb, mark_f c hc, hw]
      show (if decide (c ∈ marks) = true then _ else _) = _
      by_cases hm : c ∈ marks
      · rw [if_pos (decide_eq_true hm), if_pos hm, List.append_nil]
      · rw [if_neg (by simpa using hm), if_neg hm]
        unfold up
        by_cases h97 : 97 ≤ c
        · rw [if_pos (by omega)]
          by_cases h122 : c ≤ 122
          · rw [if_pos (by omega), if_pos hal, if_pos ⟨h97, h122⟩, ← toI_push]
            congr 3
            omega
          · rw [if_neg (by omega), if_pos hal, if_neg (fun h => h122 h.2), ← toI_push]
        · rw [if_neg (by omega), if_pos hal, if_neg (fun h => h97 h.1), ← toI_push]
    · rcases List.mem_append.1 hx with hx | hx
      · exact ha x hx
      · split at hx
        · cases hx
        · rw [List.mem_singleton.1 hx]; exact up_256 c hc
theorem normal_ev (s : ByteArray) : Ev (fun k => codes_Normal.f k s) (txt (normal (sN s)).1, ((normal (sN s)).2 : Int)) := by
  unfold codes_Normal.f normal
  rw [sN_len]
  by_cases h : 64 < s.size
  · refine Ev.pos (by omega) (Ev.eq (Ev.now _) ?_)
    rw [if_pos h]
    rfl
  · refine Ev.neg (by omega) (Ev.eq (normal_loop s (by omega) (sN s) 0 [] (by simp) (by simp) (Lt.nil _)) ?_)
    rw [if_neg h, List.nil_append]
    unfold ends
    split <;> rfl
theorem sN_extract (s : ByteArray) (a b : Nat) : sN (s.extract a b) = ((sN s).take b).drop a := by
  unfold sN
  rw [ByteArray.data_extract, Array.toList_extract]
  show List.map _ ((s.data.toList.drop a).take (b - a)) = _
  rw [List.drop_take, List.map_take, List.map_drop]
theorem show_parts (s : ByteArray) (h8 : s.size = 8) : ((s.extract 0 4) ++ (⟨#[45]⟩ : ByteArray)) ++ (s.extract 4 s.size) = txt ((sN s).take 4 ++ [45] ++ (sN s).drop 4) ∧ (s.extract 0 4).size = 4 ∧ (s.extract 4 s.size).size = 4 := by
  have hl := sN_len s
  refine ⟨?_, ?_, ?_⟩
  · apply txt_inj
    rw [sN_txt _ (((All.take (sN_lt s) 4).app (All.one (by decide))).app (All.drop (sN_lt s) 4)), sN_app, sN_app, sN_extract, sN_extract, List.drop_zero, List.take_of_length_le (l := sN s) (i := s.size) (by omega)]
    rfl
  · rw [← sN_len, sN_extract, List.drop_zero, List.length_take]; omega
  · rw [← sN_len, sN_extract, List.length_drop, List.length_take]; omega
theorem show_f (s : ByteArray) : codes_Show.f s = some (txt (shown (sN s))) := by
  unfold codes_Show.f codes_isCode.f shown
  cases hc : isCode (sN s) with
  | false => rfl
  | true =>
    have h8 : s.size = 8 := by rw [← sN_len]; exact (isCode_spec.1 hc).1
    obtain ⟨h1, h2, h3⟩ := show_parts s h8
    show (if (0 : Int) ≤ 4 then _ else none) = some (txt ((sN s).take 4 ++ [45] ++ (sN s).drop 4))
    rw [if_pos (by decide), if_pos (by first | rfl | decide), if_pos (by omega), if_pos (by omega), if_pos (by omega), if_pos (by rw [ByteArray.size_append, h2, h3]; decide), h1]
theorem normal_any (s : ByteArray) (w : World) : Calls Tryd.prog 15 #[.string s] w fun e w' => e = .returned (.tuple #[.string (txt (normal (sN s)).1), .int .i64 ((normal (sN s)).2 : Nat)]) ∧ Below w.heap.size w w' := by
  obtain ⟨k, hk⟩ := Ev.rounds (normal_ev s)
  exact codes_Normal.calls k s _ _ w hk
theorem show_any (s : ByteArray) (w : World) : Calls Tryd.prog 17 #[.string s] w fun e w' => e = .returned (.string (txt (shown (sN s)))) ∧ Below w.heap.size w w' :=
  codes_Show.calls s _ w (show_f s)
theorem num_q (a : Int) (w : World) : Calls Tryd.prog 6 #[.int .i64 a] w fun e w' => e = .returned (.int .i64 a) ∧ w = w' := by
  go_enter Tryd.func6, Tryd.ntmps6
  go_wp2
  go_ret
  exact ⟨rfl, rfl⟩
def L0 : List Nat := [0, 19, 20, 239, 240, 1, 2, 3, 4]
def CD : ByteArray := ⟨#[66, 90, 66, 90, 67, 68, 70, 71]⟩
theorem L0_fed : fed [] L0 = L0 := rfl
theorem L0_all : All 256 L0 := all_dec (by decide)
theorem L0_user : (user [] L0).2 = (0, []) := by decide +kernel
theorem L0_code : txt (user [] L0).1 = CD := by kernel_rfl
theorem CD_show : txt (shown (sN CD)) = ⟨#[66, 90, 66, 90, 45, 67, 68, 70, 71]⟩ := by kernel_rfl
theorem live_n1 : txt (normal (sN ⟨#[98, 122, 45, 98, 122, 32, 99, 100, 102, 103]⟩)).1 = CD := by kernel_rfl
theorem live_n1e : (normal (sN ⟨#[98, 122, 45, 98, 122, 32, 99, 100, 102, 103]⟩)).2 = 0 := by kernel_rfl
theorem live_n2 : txt (normal (sN ⟨#[98, 122, 45, 98, 122, 32, 99, 100, 102]⟩)).1 = ⟨#[]⟩ := by kernel_rfl
theorem live_n2e : (normal (sN ⟨#[98, 122, 45, 98, 122, 32, 99, 100, 102]⟩)).2 = 91 := by kernel_rfl
set_option maxRecDepth 100000 in
set_option maxHeartbeats 2000000 in
theorem live_any (w : World) : Calls Tryd.prog 9 #[] w fun e w' => e = .returned (.bool true) ∧ Below w.heap.size w w' := by
  have h1 : Calls Tryd.prog 13 #[.slice (some ⟨w.heap.size, 0, none⟩) 9 9] (w.alloc (.cells (c8 L0) 5)) fun e w' => ∃ g f, e = .returned (.pointer (some ⟨g, 0, none⟩)) ∧ w.heap.size < g ∧ Src w' f 1 g L0 ∧ Below w.heap.size w w' := by
    have h := newSource_any (fun _ => 0) 1 L0 (some ⟨w.heap.size, 0, none⟩) 9 9 (w.alloc (.cells (c8 L0) 5)) rfl (by decide) L0_all (C8.lit w L0 _ _ _ rfl rfl (by decide))
    rw [L0_fed] at h
    exact h.mono fun e w' ⟨g, he, hg, hS, hb⟩ => ⟨g, _, he, by simp at hg; omega, hS, ((Below.refl _ _).alloc (Nat.le_refl _) _).trans (hb.mono (by simp))⟩
  have h2 : ∀ (W : World) (f : Nat → Nat) (g : Nat), Src W f 1 g L0 → Calls Tryd.prog 14 #[.pointer (some ⟨g, 0, none⟩)] W fun e w' => e = .returned (.tuple #[.string ⟨#[66, 90, 66, 90, 67, 68, 70, 71]⟩, .int .i64 0]) ∧ Src w' (col f W.heap.size (1 + 1)) 1 g [] ∧ Far (fun k => k = g) W w' := fun W f g h => by
    have := user_any f 1 g L0 W h
    rw [L0_code, L0_user] at this
    exact this
  have h3 : ∀ W : World, Calls Tryd.prog 15 #[.string ⟨#[98, 122, 45, 98, 122, 32, 99, 100, 102, 103]⟩] W fun e w' => e = .returned (.tuple #[.string ⟨#[66, 90, 66, 90, 67, 68, 70, 71]⟩, .int .i64 0]) ∧ Below W.heap.size W w' := fun W => by
    have := normal_any ⟨#[98, 122, 45, 98, 122, 32, 99, 100, 102, 103]⟩ W
    rw [live_n1, live_n1e] at this
    exact this
  have h4 : ∀ W : World, Calls Tryd.prog 15 #[.string ⟨#[98, 122, 45, 98, 122, 32, 99, 100, 102]⟩] W fun e w' => e = .returned (.tuple #[.string ⟨#[]⟩, .int .i64 91]) ∧ Below W.heap.size W w' := fun W => by
    have := normal_any ⟨#[98, 122, 45, 98, 122, 32, 99, 100, 102]⟩ W
    rw [live_n2, live_n2e] at this
    exact this
  have h5 : ∀ W : World, Calls Tryd.prog 17 #[.string ⟨#[66, 90, 66, 90, 67, 68, 70, 71]⟩] W fun e w' => e = .returned (.string ⟨#[66, 90, 66, 90, 45, 67, 68, 70, 71]⟩) ∧ Below W.heap.size W w' := fun W => by
    have := show_any CD W
    rw [CD_show] at this
    exact this
  have h6 : ∀ (W : World) (f : Nat → Nat) (g : Nat), Src W f 1 g [] → Calls Tryd.prog 16 #[.pointer (some ⟨g, 0, none⟩)] W fun e w' => e = .returned (.int .i64 0) ∧ W = w' := fun W f g h => left_any f 1 g [] W h
  have H1 := Lib.hid h1; have H2 := Lib.hid h2; have H3 := Lib.hid h3; have H4 := Lib.hid h4; have H5 := Lib.hid h5; have H6 := Lib.hid h6
  clear h1 h2 h3 h4 h5 h6
  go_enter Tryd.func9, Tryd.ntmps9
  go_wp2_with (first
    | (go_at_call 13; (refine H1.out.mono ?_); rintro e w1 ⟨g, f1, rfl, hg, S1, hb1⟩)
    | (go_at_call 14; (with_reducible refine (H2.out _ f1 g S1).mono ?_); rintro e w2 ⟨rfl, S2, F2⟩
       have hb2 : Below w.heap.size w w2 := hb1.trans (F2.below (fun n hn e => by omega) hb1.size)
       clear S1)
    | (go_at_call 15; (with_reducible refine (H3.out _).mono ?_); rintro e w3 ⟨rfl, hb3⟩
       have S3 := S2.below hb3
       have hb3' := hb2.trans (hb3.mono hb2.size)
       clear S2 hb3)
    | (go_at_call 15; (with_reducible refine (H4.out _).mono ?_); rintro e w4 ⟨rfl, hb4⟩
       have S4 := S3.below hb4
       have hb4' := hb3'.trans (hb4.mono hb3'.size)
       clear S3 hb4)
    | (go_at_call 6; (with_reducible refine (num_q _ _).mono ?_); rintro e w5 ⟨rfl, rfl⟩)
    | (go_at_call 16; (with_reducible refine (H6.out _ _ g S4).mono ?_); rintro e w6 ⟨rfl, rfl⟩)
    | (go_at_call 17; (with_reducible refine (H5.out _).mono ?_); rintro e w7 ⟨rfl, hb7⟩
       have hb7' := hb4'.trans (hb7.mono hb4'.size)))
  go_ret
  exact ⟨rfl, hb7'⟩
theorem C8.far {S : Nat → Prop} {w w' : World} {A : Option Addr} {n : Nat} {p : List Nat} (h : C8 w A n p) (F : Far S w w') (hA : 0 < n → ∀ ad, A = some ad → ¬ S ad.block) : C8 w' A n p := by
  rcases Nat.eq_zero_or_pos n with h0 | h0
  · subst h0
    have e : p = [] := List.eq_nil_of_length_eq_zero h.len
    subst e
    exact C8.nil w' A
  · obtain ⟨b, o, e, hlt, hbs⟩ := h.at_ h0
    have h1 := h.len
    subst e
    have h9 := h.2.1
    have := C8.of_Bs (hbs.kept (F.at_ hlt (hA h0 _ rfl))) (by omega)
    rwa [h1] at this
theorem conv_C8 {w : World} {A : Option Addr} {n c : Nat} {p : List Nat} (h : C8 w A n p) : (convert 32 9 (.slice A n c)).run Tryd.prog w = .ok (.string (txt p)) w :=
  Kd.C_string (P := Tryd.prog) (w := w) (A := A) (c := c) Tryd.underlying32 Tryd.underlying5 Tryd.underlying9 (show Kd.C (Kd.int .u8) w A n (toI p) from h)
end Go.Proofs.YtaeipffenlkjpaaDoor.Sha
