/-
  Sources: what lies where, and what stays; the program's Left, Byte: what the calls do, walked.
-/
import Derived.Test.YtaeipffenlkjpaaCCode
import Derived.ArgAppend
namespace Go.Proofs.Ytaeipffenlkjpaa.Sha
open Go.RowKit Go.Proofs.YtaeipffenlkjpaaW.PrintWords Go.Proofs.Ytaeipffenlkjpaa.PAll Go.Proofs.Ytaeipffenlkjpaa.Plain Go.Proofs.Ytaeipffenlkjpaa.Cod
set_option linter.unusedVariables false
set_option linter.unusedSimpArgs false
/-- Outside S nothing that lay is turned. -/
def Far (S : Nat → Prop) (w w' : World) : Prop := w'.os = w.os ∧ w'.tape = w.tape ∧ w'.output = w.output ∧ w.heap.size ≤ w'.heap.size ∧ ∀ k, k < w.heap.size → ¬ S k → w'.heap[k]? = w.heap[k]?
theorem Far.refl (S : Nat → Prop) (w : World) : Far S w w := ⟨rfl, rfl, rfl, Nat.le_refl _, fun _ _ _ => rfl⟩
theorem Far.size {S : Nat → Prop} {w w' : World} (h : Far S w w') : w.heap.size ≤ w'.heap.size := h.2.2.2.1
theorem Far.at_ {S : Nat → Prop} {w w' : World} (h : Far S w w') {k : Nat} (hk : k < w.heap.size) (hs : ¬ S k) : w'.heap[k]? = w.heap[k]? := h.2.2.2.2 k hk hs
theorem Far.trans {S S' : Nat → Prop} {a b c : World} (h : Far S a b) (k : Far S' b c) (hs : ∀ n, n < a.heap.size → S' n → S n) : Far S a c :=
  ⟨k.1.trans h.1, k.2.1.trans h.2.1, k.2.2.1.trans h.2.2.1, Nat.le_trans h.size k.size, fun n hn hS => (k.at_ (Nat.lt_of_lt_of_le hn h.size) (fun e => hS (hs n hn e))).trans (h.at_ hn hS)⟩
theorem Far.mono {S S' : Nat → Prop} {w w' : World} (h : Far S w w') (hs : ∀ n, n < w.heap.size → S n → S' n) : Far S' w w' :=
  ⟨h.1, h.2.1, h.2.2.1, h.size, fun n hn hS => h.at_ hn (fun e => hS (hs n hn e))⟩
theorem Far.of_below {S : Nat → Prop} {w w' : World} (h : Below w.heap.size w w') : Far S w w' := ⟨h.os, h.tape, h.output, h.size, fun k hk _ => h.block k hk⟩
theorem Far.below {S : Nat → Prop} {w w' : World} (h : Far S w w') {B : Nat} (hs : ∀ n, n < B → ¬ S n) (hB : B ≤ w.heap.size) : Below B w w' :=
  ⟨h.1, h.2.1, h.2.2.1, h.size, fun k hk => h.at_ (Nat.lt_of_lt_of_le hk hB) (hs k hk)⟩
theorem Far.of_grown {w w' : World} {row : Option Nat} (h : w.grownBy w' row) : Far (fun k => row = some k) w w' :=
  ⟨h.os, h.tape, h.output, h.size, fun k hk hs => h.block k hk (fun e => hs e.symm)⟩
theorem Far.set_ (w : World) (g i : Nat) (u : Value) : Far (fun k => k = g) w (w.setCell ⟨g, i, none⟩ u) := by
  have hb := (Below.refl 0 w).setCell (p := ⟨g, i, none⟩) (Nat.zero_le _) u
  exact ⟨hb.os, hb.tape, hb.output, hb.size, fun k hk hs => Below.heap_setCell w ⟨g, i, none⟩ u k hs⟩
theorem Far.alloc (S : Nat → Prop) (w : World) (o : Obj) : Far S w (w.alloc o) := Far.of_below ((Below.refl _ _).alloc (Nat.le_refl _) _)
/-- f' marks as f what lay. -/
def Ext (w : World) (f f' : Nat → Nat) : Prop := ∀ k, k < w.heap.size → f' k = f k
theorem Ext.refl (w : World) (f : Nat → Nat) : Ext w f f := fun _ _ => rfl
theorem Ext.trans {a b : World} {f f' f'' : Nat → Nat} (h : Ext a f f') (k : Ext b f' f'') (hs : a.heap.size ≤ b.heap.size) : Ext a f f'' := fun n hn => (k n (Nat.lt_of_lt_of_le hn hs)).trans (h n hn)
def col (f : Nat → Nat) (n i : Nat) : Nat → Nat := fun k => if k < n then f k else i
theorem col_ext (w : World) (f : Nat → Nat) (i : Nat) : Ext w f (col f w.heap.size i) := fun k hk => if_pos hk
theorem col_new (f : Nat → Nat) {n k : Nat} (i : Nat) (h : n ≤ k) : col f n i k = i := if_neg (by omega)
theorem Bs.kept {w w' : World} {b o : Nat} {p : List Nat} (h : Bs w b o p) (hb : w'.heap[b]? = w.heap[b]?) : Bs w' b o p := fun j hj => (World.cell?_of_block (a := ⟨b, o + j, none⟩) hb).trans (h j hj)
/-- A source of the program: its bytes lie in marked blocks. -/
def Src (w : World) (f : Nat → Nat) (i g : Nat) (L : List Nat) : Prop :=
  f g = i ∧ L.length ≤ 4096 ∧ All 256 L ∧ ∃ A c, Blk w g 59 #[.slice A L.length c] ∧ L.length ≤ c ∧ c ≤ 9223372036854775807 ∧ (0 < L.length → ∃ b o, A = some ⟨b, o, none⟩ ∧ f b = i ∧ b ≠ g ∧ b < w.heap.size ∧ Bs w b o L)
theorem Src.keep {w w' : World} {f f' : Nat → Nat} {i g : Nat} {L : List Nat} (h : Src w f i g L) (he : Ext w f f') (hs : w.heap.size ≤ w'.heap.size) (hk : ∀ k, k < w.heap.size → f k = i → w'.heap[k]? = w.heap[k]?) : Src w' f' i g L := by
  obtain ⟨h1, h2, h3, A, c, hB, hc, hm, hd⟩ := h
  refine ⟨(he g hB.lt).trans h1, h2, h3, A, c, (hk g hB.lt h1).trans hB, hc, hm, fun h0 => ?_⟩
  obtain ⟨b, o, e, hf, hne, hlt, hbs⟩ := hd h0
  exact ⟨b, o, e, (he b hlt).trans hf, hne, Nat.lt_of_lt_of_le hlt hs, hbs.kept (hk b hlt hf)⟩
theorem Src.far {w w' : World} {f f' : Nat → Nat} {i g : Nat} {L : List Nat} {S : Nat → Prop} (h : Src w f i g L) (he : Ext w f f') (hF : Far S w w') (hS : ∀ k, k < w.heap.size → f k = i → ¬ S k) : Src w' f' i g L :=
  h.keep he hF.size fun k hk hf => hF.at_ hk (hS k hk hf)
theorem Src.below {w w' : World} {f : Nat → Nat} {i g : Nat} {L : List Nat} (h : Src w f i g L) (hb : Below w.heap.size w w') : Src w' f i g L := h.keep (Ext.refl _ _) hb.size fun k hk _ => hb.block k hk
theorem Src.lt {w : World} {f : Nat → Nat} {i g : Nat} {L : List Nat} (h : Src w f i g L) : g < w.heap.size := by
  obtain ⟨_, _, _, A, c, hB, _⟩ := h
  exact hB.lt
/-- A source of the reference. -/
def RSrc (w : World) (f : Nat → Nat) (i g : Nat) (L : List Nat) : Prop :=
  f g = i ∧ L.length ≤ 4096 ∧ All 256 L ∧ ∃ v, Blk w g 48 #[v] ∧ Own w 0 v L ∧ ∀ k, v.ownBlock = some k → f k = i
theorem RSrc.keep {w w' : World} {f f' : Nat → Nat} {i g : Nat} {L : List Nat} (h : RSrc w f i g L) (he : Ext w f f') (hk : ∀ k, k < w.heap.size → f k = i → w'.heap[k]? = w.heap[k]?) : RSrc w' f' i g L := by
  obtain ⟨h1, h2, h3, v, hB, hO, hf⟩ := h
  exact ⟨(he g hB.lt).trans h1, h2, h3, v, (hk g hB.lt h1).trans hB, own_move hO (fun k e => hk k (own_lt hO k e) (hf k e)), fun k e => (he k (own_lt hO k e)).trans (hf k e)⟩
theorem RSrc.far {w w' : World} {f f' : Nat → Nat} {i g : Nat} {L : List Nat} {S : Nat → Prop} (h : RSrc w f i g L) (he : Ext w f f') (hF : Far S w w') (hS : ∀ k, k < w.heap.size → f k = i → ¬ S k) : RSrc w' f' i g L :=
  h.keep he fun k hk hf => hF.at_ hk (hS k hk hf)
theorem RSrc.below {w w' : World} {f : Nat → Nat} {i g : Nat} {L : List Nat} (h : RSrc w f i g L) (hb : Below w.heap.size w w') : RSrc w' f i g L := h.keep (Ext.refl _ _) fun k hk _ => hb.block k hk
/-- A row of bytes of the call's own, marked. -/
def Row (w : World) (f : Nat → Nat) (j : Nat) (v : Value) (p : List Nat) : Prop := Own w 0 v p ∧ ∀ k, v.ownBlock = some k → f k = j
theorem Row.keep {w w' : World} {f f' : Nat → Nat} {j : Nat} {v : Value} {p : List Nat} (h : Row w f j v p) (he : Ext w f f') (hk : ∀ k, k < w.heap.size → f k = j → w'.heap[k]? = w.heap[k]?) : Row w' f' j v p :=
  ⟨own_move h.1 (fun k e => hk k (own_lt h.1 k e) (h.2 k e)), fun k e => (he k (own_lt h.1 k e)).trans (h.2 k e)⟩
theorem Row.far {w w' : World} {f f' : Nat → Nat} {j : Nat} {v : Value} {p : List Nat} {S : Nat → Prop} (h : Row w f j v p) (he : Ext w f f') (hF : Far S w w') (hS : ∀ k, k < w.heap.size → f k = j → ¬ S k) : Row w' f' j v p :=
  h.keep he fun k hk hf => hF.at_ hk (hS k hk hf)
theorem Row.nil (w : World) (f : Nat → Nat) (j : Nat) : Row w f j (.slice none 0 0) [] := ⟨Own.nil w 0, fun k e => by cases e⟩
/-- Behind an append. -/
theorem Row.grown {w w' : World} {f : Nat → Nat} {j : Nat} {v v' : Value} {p q : List Nat} (h : Row w f j v p) (ho : Own w' 0 v' q) (hv : v'.ownBlock = v.ownBlock ∨ v'.ownBlock = some w.heap.size) : Row w' (col f w.heap.size j) j v' q :=
  ⟨ho, fun k e => by
    rcases hv with hv | hv
    · rw [hv] at e
      rw [col_ext w f j k (own_lt h.1 k e)]
      exact h.2 k e
    · rw [hv] at e
      injection e with e
      exact col_new f j (by omega)⟩
theorem sliced_one (A : Option Addr) (n c : Nat) (hn : n + 1 ≤ c) : ∃ A', sliced A 1 (n + 1) c 1 = .slice A' n (c - 1) ∧ (0 < n → ∀ b o, A = some ⟨b, o, none⟩ → A' = some ⟨b, o + 1, none⟩) := by
  unfold sliced
  by_cases h1 : c = 1
  · rw [if_pos h1]
    exact ⟨A, by simp, fun h0 => absurd h0 (by omega)⟩
  · rw [if_neg h1]
    refine ⟨A.map (·.add (1 * 1)), by simp, fun h0 b o e => ?_⟩
    rw [e]
    rfl
theorem left_nil (w : World) : Calls Try.prog 22 #[.pointer none] w fun e w' => e = .returned (.int .i64 0) ∧ w = w' := by
  go_enter Try.func22, Try.ntmps22
  go_wp2
  go_ret
  exact ⟨rfl, rfl⟩
theorem left_any (f : Nat → Nat) (i g : Nat) (L : List Nat) (w : World) (h : Src w f i g L) : Calls Try.prog 22 #[.pointer (some ⟨g, 0, none⟩)] w fun e w' => e = .returned (.int .i64 (L.length : Int)) ∧ w = w' := by
  obtain ⟨h1, h2, h3, A, c, hB, hc, hm, hd⟩ := h
  have g0 : w.cell? ⟨g, 0, none⟩ = some (.slice A L.length c) := hB.cell 0
  obtain ⟨n, hn⟩ : ∃ n, n = L.length := ⟨_, rfl⟩
  rw [← hn] at g0 ⊢
  clear h1 h2 h3 hB hc hm hd hn
  go_enter Try.func22, Try.ntmps22
  go_wp2
  go_ret
  exact ⟨rfl, rfl⟩
theorem byte_nil (w : World) (a : Option Addr) (h : a = none ∨ ∃ f i g, Src w f i g [] ∧ a = some ⟨g, 0, none⟩) : Calls Try.prog 29 #[.pointer a] w fun e w' => e = .returned (.tuple #[.int .u8 0, .int .i64 90]) ∧ w = w' := by
  have hcall : Calls Try.prog 22 #[.pointer a] w fun e w' => e = .returned (.int .i64 0) ∧ w = w' := by
    rcases h with h | ⟨f, i, g, h, e⟩
    · rw [h]; exact left_nil w
    · rw [e]; exact left_any f i g [] w h
  clear h
  go_enter Try.func29, Try.ntmps29
  go_wp2_with (go_at_call 22; refine hcall.mono ?_; rintro e w1 ⟨rfl, rfl⟩)
  go_ret2
  exact ⟨rfl, rfl⟩
set_option maxHeartbeats 400000 in
theorem byte_cons (f : Nat → Nat) (i g x : Nat) (L : List Nat) (w : World) (h : Src w f i g (x :: L)) : Calls Try.prog 29 #[.pointer (some ⟨g, 0, none⟩)] w fun e w' => e = .returned (.tuple #[.int .u8 (x : Int), .int .i64 0]) ∧ Src w' f i g L ∧ Far (fun k => k = g) w w' := by
  have hcall := left_any f i g (x :: L) w h
  obtain ⟨h1, h2, h3, A, c, hB, hc, hm, hd⟩ := h
  obtain ⟨b, o, rfl, hf, hne, hlt, hbs⟩ := hd (by simp)
  obtain ⟨A', hA, hA'⟩ := sliced_one (some ⟨b, o, none⟩) L.length c (by simpa using hc)
  have hsl : ∀ W : World, (Instr.slice 31 (.slice (some ⟨b, o, none⟩) (L.length + 1) c) (some (.int .i64 1)) none none).run Try.prog W = .ok (.slice A' L.length (c - 1)) W := fun W => by
    rw [← hA]
    go_simp
    intro h
    omega
  have g0 : w.cell? ⟨g, 0, none⟩ = some (.slice (some ⟨b, o, none⟩) (L.length + 1) c) := hB.cell 0
  have gx : w.cell? ⟨b, o, none⟩ = some (.int .u8 (x : Int)) := hbs 0 (by simp)
  have fz := hB.frozen 0
  have HC := Lib.hid hc; have HB := Lib.hid hB; have HA := Lib.hid hA'; have HBS := Lib.hid hbs; have H1 := Lib.hid h1; have H3 := Lib.hid h3; have HF := Lib.hid hf
  obtain ⟨n, hn⟩ : ∃ n, n = L.length := ⟨_, rfl⟩
  rw [List.length_cons, ← hn] at hcall
  rw [← hn] at hsl g0
  have HN := Lib.hid hn
  have i0 : 0 < n + 1 := by omega
  clear hc hB hA hA' hbs h1 h3 hd hn hf
  go_enter Try.func29, Try.ntmps29
  go_wp2_with (go_at_call 22; refine hcall.mono ?_; rintro e w1 ⟨rfl, rfl⟩)
  go_ret2
  have hB' := HB.out.set_ 0 (.slice A' n (c - 1))
  refine ⟨rfl, ⟨H1.out, by have := h2; simp at this; omega, fun y hy => H3.out y (by simp [hy]), A', c - 1, by rw [← HN.out]; exact hB', by have := HC.out; simp at this; omega, by omega, fun h0 => ?_⟩, Far.set_ _ _ _ _⟩
  refine ⟨b, o + 1, HA.out h0 b o rfl, HF.out, hne, by simpa using hlt, ?_⟩
  have hbs : Bs w b (o + 1) L := fun j hj => by
    have h := HBS.out (j + 1) (by simp; omega)
    rw [show o + 1 + j = o + (j + 1) by omega, h]
    rfl
  exact hbs.kept (Below.heap_setCell w ⟨g, 0, none⟩ _ b hne)
end Go.Proofs.Ytaeipffenlkjpaa.Sha
