/-
  The program's register.turn and round: what the calls do, walked.
-/
import Derived.Test.YtfedlgcpgfofjaaDoorDSha
import Derived.Test.YtfedlgcpgfofjaaDoorProg
import Derived.WalkKit
import Derived.KernelRfl
import Derived.Lib.Hide
import Derived.LoopTactic
import Derived.Deep.QuietTactic
import Derived.BigQuiet
import Derived.Deep.RegionHeld3
import Derived.Deep.DrawnRows
import Derived.Laws.BitsLemmas
import Derived.Laws.Rows
import Derived.Outline
import Derived.IntWalk
import Derived.Below
namespace Go.Proofs.YtfedlgcpgfofjaaDoor.Sha
open Go.RowKit
set_option linter.unusedVariables false
theorem u32_wrap (n : Nat) (h : n < 4294967296) : IntKind.u32.wrap (n : Int) = (n : Int) := by rw [IntKind.wrap_u32]; omega
theorem u32_ofInt (a : Nat) (ha : a < 4294967296) : (BitVec.ofInt 32 (a : Int)).toNat = a := by
  rw [BitVec.ofInt_natCast, BitVec.toNat_ofNat]; exact Nat.mod_eq_of_lt (by omega)
theorem u32_and (a b : Nat) (ha : a < 4294967296) (hb : b < 4294967296) : bits .and .u32 (a : Int) (b : Int) = ((a &&& b : Nat) : Int) := by
  have hx : a &&& b < 4294967296 := Nat.and_lt_two_pow (n := 32) _ hb
  show IntKind.u32.wrap ((BitVec.ofInt 32 (a : Int) &&& BitVec.ofInt 32 (b : Int)).toNat : Int) = _
  rw [BitVec.toNat_and, u32_ofInt a ha, u32_ofInt b hb, u32_wrap _ hx]
theorem u32_or (a b : Nat) (ha : a < 4294967296) (hb : b < 4294967296) : bits .or .u32 (a : Int) (b : Int) = ((a ||| b : Nat) : Int) := by
  have hx : a ||| b < 4294967296 := Nat.or_lt_two_pow (n := 32) ha hb
  show IntKind.u32.wrap ((BitVec.ofInt 32 (a : Int) ||| BitVec.ofInt 32 (b : Int)).toNat : Int) = _
  rw [BitVec.toNat_or, u32_ofInt a ha, u32_ofInt b hb, u32_wrap _ hx]
theorem u32_xor (a b : Nat) (ha : a < 4294967296) (hb : b < 4294967296) : bits .xor .u32 (a : Int) (b : Int) = ((a ^^^ b : Nat) : Int) := by
  have hx : a ^^^ b < 4294967296 := Nat.xor_lt_two_pow (n := 32) ha hb
  show IntKind.u32.wrap ((BitVec.ofInt 32 (a : Int) ^^^ BitVec.ofInt 32 (b : Int)).toNat : Int) = _
  rw [BitVec.toNat_xor, u32_ofInt a ha, u32_ofInt b hb, u32_wrap _ hx]
theorem round_any (x n : Nat) (w : World) (hx : x < 4294967296) (h0 : 1 ≤ n) (hn : n ≤ 31) :
    Calls Tryd.prog 62 #[.int .u32 x, .int .u64 n] w fun e w' => e = .returned (.int .u32 (rotr x n)) ∧ w = w' := by
  have h1 : (0 : Int) ≤ n := by omega
  have h2 : (n : Int) ≤ 31 := by omega
  have h3 : (0 : Int) ≤ x := by omega
  have h4 : (x : Int) < 4294967296 := by omega
  go_enter Tryd.func62, Tryd.ntmps62
  go_wp2
  go_ret
  refine ⟨?_, rfl⟩
  show Ending.returned (Value.int .u32 (bits .or .u32 ((x : Int) / 2 ^ n) ((x : Int) * 2 ^ (32 - n) % 4294967296))) = _
  rw [show ((x : Int) / 2 ^ n) = ((x / 2 ^ n : Nat) : Int) by simp, show ((x : Int) * 2 ^ (32 - n) % 4294967296) = ((x * 2 ^ (32 - n) % 4294967296 : Nat) : Int) by simp,
    u32_or _ _ (Nat.lt_of_le_of_lt (Nat.div_le_self _ _) hx) (Nat.mod_lt _ (by decide))]
  rfl
theorem round_2 (x : Nat) (w : World) (hx : x < 4294967296) : Calls Tryd.prog 62 #[.int .u32 x, .int .u64 2] w fun e w' => e = .returned (.int .u32 (rotr x 2)) ∧ w = w' := round_any x 2 w hx (by decide) (by decide)
theorem round_6 (x : Nat) (w : World) (hx : x < 4294967296) : Calls Tryd.prog 62 #[.int .u32 x, .int .u64 6] w fun e w' => e = .returned (.int .u32 (rotr x 6)) ∧ w = w' := round_any x 6 w hx (by decide) (by decide)
theorem round_7 (x : Nat) (w : World) (hx : x < 4294967296) : Calls Tryd.prog 62 #[.int .u32 x, .int .u64 7] w fun e w' => e = .returned (.int .u32 (rotr x 7)) ∧ w = w' := round_any x 7 w hx (by decide) (by decide)
theorem round_11 (x : Nat) (w : World) (hx : x < 4294967296) : Calls Tryd.prog 62 #[.int .u32 x, .int .u64 11] w fun e w' => e = .returned (.int .u32 (rotr x 11)) ∧ w = w' := round_any x 11 w hx (by decide) (by decide)
theorem round_13 (x : Nat) (w : World) (hx : x < 4294967296) : Calls Tryd.prog 62 #[.int .u32 x, .int .u64 13] w fun e w' => e = .returned (.int .u32 (rotr x 13)) ∧ w = w' := round_any x 13 w hx (by decide) (by decide)
theorem round_17 (x : Nat) (w : World) (hx : x < 4294967296) : Calls Tryd.prog 62 #[.int .u32 x, .int .u64 17] w fun e w' => e = .returned (.int .u32 (rotr x 17)) ∧ w = w' := round_any x 17 w hx (by decide) (by decide)
theorem round_18 (x : Nat) (w : World) (hx : x < 4294967296) : Calls Tryd.prog 62 #[.int .u32 x, .int .u64 18] w fun e w' => e = .returned (.int .u32 (rotr x 18)) ∧ w = w' := round_any x 18 w hx (by decide) (by decide)
theorem round_19 (x : Nat) (w : World) (hx : x < 4294967296) : Calls Tryd.prog 62 #[.int .u32 x, .int .u64 19] w fun e w' => e = .returned (.int .u32 (rotr x 19)) ∧ w = w' := round_any x 19 w hx (by decide) (by decide)
theorem round_22 (x : Nat) (w : World) (hx : x < 4294967296) : Calls Tryd.prog 62 #[.int .u32 x, .int .u64 22] w fun e w' => e = .returned (.int .u32 (rotr x 22)) ∧ w = w' := round_any x 22 w hx (by decide) (by decide)
theorem round_25 (x : Nat) (w : World) (hx : x < 4294967296) : Calls Tryd.prog 62 #[.int .u32 x, .int .u64 25] w fun e w' => e = .returned (.int .u32 (rotr x 25)) ∧ w = w' := round_any x 25 w hx (by decide) (by decide)
/-- Words, bytes as cells. -/
def v32 (x : Nat) : Value := .int .u32 (x : Int)
def v8 (x : Nat) : Value := .int .u8 (x : Int)
def c32 (l : List Nat) : Array Value := (l.map v32).toArray
def c8 (l : List Nat) : Array Value := (l.map v8).toArray
/-- The tables. -/
def Tab1 (w : World) : Prop := ∀ j, j < 64 → w.cell? ⟨1, j, none⟩ = some (v32 (roots.getD j 0))
/-- Bytes that lie at an address. -/
def Bs (w : World) (b o : Nat) (p : List Nat) : Prop := ∀ j, j < p.length → w.cell? ⟨b, o + j, none⟩ = some (v8 (p.getD j 0))
def Blk (w : World) (g : Nat) (t : TypeId) (cs : Array Value) : Prop := w.heap[g]? = some (.cells cs t (0, 0))
section
variable {w w' : World} {g : Nat} {t : TypeId} {cs : Array Value}
theorem Blk.lt (h : Blk w g t cs) : g < w.heap.size := by
  rcases Nat.lt_or_ge g w.heap.size with hlt | hge
  · exact hlt
  · unfold Blk at h; rw [Array.getElem?_eq_none hge] at h; cases h
theorem Blk.cell (h : Blk w g t cs) (i : Nat) : w.cell? ⟨g, i, none⟩ = cs[i]? := cell_of_row w g i cs t (0, 0) h
theorem Blk.frozen (h : Blk w g t cs) (i : Nat) : w.frozen? ⟨g, i, none⟩ = false := by
  unfold Blk at h
  simp [World.frozen?, h]
theorem Blk.new (w : World) (t : TypeId) (cs : Array Value) : Blk (w.alloc (.cells cs t)) w.heap.size t cs := heap_alloc_new w _
theorem Blk.new_ (w : World) (t : TypeId) (cs : Array Value) (n : Nat) (h : w.heap.size = n) : Blk (w.alloc (.cells cs t)) n t cs := h ▸ Blk.new w t cs
theorem Blk.drew (h : Blk w g t cs) : Blk w.drew g t cs := h
theorem Blk.drewN (h : Blk w g t cs) (n : Nat) : Blk (w.drewN n) g t cs := h
theorem Blk.alloc (h : Blk w g t cs) (o : Obj) : Blk (w.alloc o) g t cs := (Below.heap_alloc w o g h.lt).trans h
theorem Blk.set_ (h : Blk w g t cs) (i : Nat) (u : Value) : Blk (w.setCell ⟨g, i, none⟩ u) g t (cs.setIfInBounds i u) := by
  unfold Blk at h ⊢
  simp [World.setCell, Array.getElem?_modify, h]
theorem Blk.far (h : Blk w g t cs) {p : Addr} (hp : g ≠ p.block) (u : Value) : Blk (w.setCell p u) g t cs := (Below.heap_setCell w p u g hp).trans h
theorem Blk.below {B : Nat} (h : Blk w g t cs) (hb : Below B w w') (hg : g < B) : Blk w' g t cs := (hb.block g hg).trans h
end
theorem below_drewN {B : Nat} {a w : World} (h : Below B a w) (n : Nat) : Below B a (w.drewN n) := ⟨h.os, h.tape, h.output, h.size, h.block⟩
theorem c32_at (l : List Nat) (i : Nat) (h : i < l.length) : (c32 l)[i]? = some (v32 (l.getD i 0)) := by
  simp [c32, List.getD_eq_getElem?_getD, List.getElem?_eq_getElem h]
theorem c8_at (l : List Nat) (i : Nat) (h : i < l.length) : (c8 l)[i]? = some (v8 (l.getD i 0)) := by
  simp [c8, List.getD_eq_getElem?_getD, List.getElem?_eq_getElem h]
theorem Blk.w32 {w : World} {g t : Nat} {l : List Nat} (h : Blk w g t (c32 l)) (i : Nat) (hi : i < l.length) : w.cell? ⟨g, i, none⟩ = some (.int .u32 (l.getD i 0 : Nat)) := (h.cell i).trans (c32_at l i hi)
theorem Blk.w8 {w : World} {g t : Nat} {l : List Nat} (h : Blk w g t (c8 l)) (i : Nat) (hi : i < l.length) : w.cell? ⟨g, i, none⟩ = some (.int .u8 (l.getD i 0 : Nat)) := (h.cell i).trans (c8_at l i hi)
theorem set_list (enc : Nat → Value) (l : List Nat) (i x : Nat) : ((l.map enc).toArray).setIfInBounds i (enc x) = ((l.set i x).map enc).toArray := by
  simp [List.map_set]
theorem c32_push (l : List Nat) (m i x : Nat) (hi : l.length = i) : (c32 (l ++ List.replicate (m + 1) 0)).setIfInBounds i (v32 x) = c32 (l ++ [x] ++ List.replicate m 0) := by
  subst hi
  unfold c32
  rw [set_list, List.replicate_succ, List.set_append_right _ _ (Nat.le_refl _), Nat.sub_self, List.set_cons_zero, List.append_assoc]
  rfl
theorem w16_at (p : List Nat) (k : Nat) (h : k < 16) : (w16 p).getD k 0 = word4 p k := by
  simp [w16, List.getD_eq_getElem?_getD, h]
theorem or_add (a b i : Nat) (h : b < 2 ^ i) : a * 2 ^ i ||| b = a * 2 ^ i + b := by
  rw [Nat.mul_comm, Nat.two_pow_add_eq_or_of_lt h]
theorem join4 (a b c d : Nat) (ha : a < 256) (hb : b < 256) (hc : c < 256) (hd : d < 256) :
    bits .or .u32 (bits .or .u32 (bits .or .u32 ((a : Int) * 16777216) ((b : Int) * 65536)) ((c : Int) * 256)) (d : Int) = (((((a * 256 + b) * 256 + c) * 256 + d : Nat)) : Int) := by
  rw [show (a : Int) * 16777216 = ((a * 2 ^ 24 : Nat) : Int) by simp, show (b : Int) * 65536 = ((b * 65536 : Nat) : Int) by simp, show (c : Int) * 256 = ((c * 256 : Nat) : Int) by simp,
    u32_or _ _ (by omega) (by omega), or_add a (b * 65536) 24 (by omega), show a * 2 ^ 24 + b * 65536 = (a * 256 + b) * 2 ^ 16 by omega,
    u32_or _ _ (by omega) (by omega), or_add _ (c * 256) 16 (by omega), show (a * 256 + b) * 2 ^ 16 + c * 256 = ((a * 256 + b) * 256 + c) * 2 ^ 8 by omega,
    u32_or _ _ (by omega) (by omega), or_add _ d 8 (by omega)]
theorem quiet_left {P : Program} {f : FuncId} {args : Array Value} {w : World} {n : Nat} {v : Value}
    (h : Calls P f args (w.drewN n) fun e w' => e = .returned v ∧ w.drewN n = w') : Calls P f args (w.drewN n) fun e w'' => e = .returned v ∧ ∃ m, w'' = w.drewN m :=
  h.mono fun _ _ ⟨he, hm⟩ => ⟨he, n, hm.symm⟩
theorem div_cast (x n : Nat) : (x : Int) / (n : Int) = ((x / n : Nat) : Int) := by simp
theorem sg0_int (x : Nat) (h : x < 4294967296) : bits .xor .u32 (bits .xor .u32 ((rotr x 7 : Nat) : Int) ((rotr x 18 : Nat) : Int)) ((x : Int) / 8) = ((sg0 x : Nat) : Int) := by
  rw [u32_xor _ _ (rotr_lt 7 h) (rotr_lt 18 h), show (x : Int) / 8 = ((x / 8 : Nat) : Int) by simp, u32_xor _ _ (Nat.xor_lt_two_pow (n := 32) (rotr_lt 7 h) (rotr_lt 18 h)) (by omega)]
  rfl
theorem sg1_int (x : Nat) (h : x < 4294967296) : bits .xor .u32 (bits .xor .u32 ((rotr x 17 : Nat) : Int) ((rotr x 19 : Nat) : Int)) ((x : Int) / 1024) = ((sg1 x : Nat) : Int) := by
  rw [u32_xor _ _ (rotr_lt 17 h) (rotr_lt 19 h), show (x : Int) / 1024 = ((x / 1024 : Nat) : Int) by simp, u32_xor _ _ (Nat.xor_lt_two_pow (n := 32) (rotr_lt 17 h) (rotr_lt 19 h)) (by omega)]
  rfl
theorem bg0_int (x : Nat) (h : x < 4294967296) : bits .xor .u32 (bits .xor .u32 ((rotr x 2 : Nat) : Int) ((rotr x 13 : Nat) : Int)) ((rotr x 22 : Nat) : Int) = ((bg0 x : Nat) : Int) := by
  rw [u32_xor _ _ (rotr_lt 2 h) (rotr_lt 13 h), u32_xor _ _ (Nat.xor_lt_two_pow (n := 32) (rotr_lt 2 h) (rotr_lt 13 h)) (rotr_lt 22 h)]
  rfl
theorem bg1_int (x : Nat) (h : x < 4294967296) : bits .xor .u32 (bits .xor .u32 ((rotr x 6 : Nat) : Int) ((rotr x 11 : Nat) : Int)) ((rotr x 25 : Nat) : Int) = ((bg1 x : Nat) : Int) := by
  rw [u32_xor _ _ (rotr_lt 6 h) (rotr_lt 11 h), u32_xor _ _ (Nat.xor_lt_two_pow (n := 32) (rotr_lt 6 h) (rotr_lt 11 h)) (rotr_lt 25 h)]
  rfl
theorem not_int (x : Nat) (h : x < 4294967296) : bits .xor .u32 (if IntKind.u32.signed = true then -1 else IntKind.u32.max) (x : Int) = ((4294967295 - x : Nat) : Int) := by
  show bits .xor .u32 ((4294967295 : Nat) : Int) (x : Int) = _
  rw [u32_xor _ _ (by decide) h]
  congr 1
  apply Nat.eq_of_testBit_eq
  intro i
  rw [Nat.testBit_xor, show 4294967295 = 2 ^ 32 - 1 from rfl, Nat.testBit_two_pow_sub_one, Nat.sub_sub, Nat.add_comm 1 x, Nat.testBit_two_pow_sub_succ h]
  by_cases hi : i < 32
  · simp [hi]
  · have : x.testBit i = false := Nat.testBit_lt_two_pow (Nat.lt_of_lt_of_le h (Nat.pow_le_pow_right (n := 2) (by decide) (show 32 ≤ i by omega)))
    simp [hi, this]
theorem cho_int (e f g : Nat) (he : e < 4294967296) (hf : f < 4294967296) (hg : g < 4294967296) :
    bits .xor .u32 (bits .and .u32 (e : Int) (f : Int)) (bits .and .u32 (bits .xor .u32 (if IntKind.u32.signed = true then -1 else IntKind.u32.max) (e : Int)) (g : Int)) = ((cho e f g : Nat) : Int) := by
  rw [not_int e he, u32_and _ _ he hf, u32_and _ _ (by omega) hg, u32_xor _ _ (Nat.and_lt_two_pow (n := 32) _ hf) (Nat.and_lt_two_pow (n := 32) _ hg)]
  rfl
theorem maj_int (a b c : Nat) (ha : a < 4294967296) (hb : b < 4294967296) (hc : c < 4294967296) :
    bits .xor .u32 (bits .xor .u32 (bits .and .u32 (a : Int) (b : Int)) (bits .and .u32 (a : Int) (c : Int))) (bits .and .u32 (b : Int) (c : Int)) = ((maj a b c : Nat) : Int) := by
  rw [u32_and _ _ ha hb, u32_and _ _ ha hc, u32_and _ _ hb hc, u32_xor _ _ (Nat.and_lt_two_pow (n := 32) _ hb) (Nat.and_lt_two_pow (n := 32) _ hc),
    u32_xor _ _ (Nat.xor_lt_two_pow (n := 32) (Nat.and_lt_two_pow (n := 32) _ hb) (Nat.and_lt_two_pow (n := 32) _ hc)) (Nat.and_lt_two_pow (n := 32) _ hc)]
  rfl
theorem roots_all : All 4294967296 roots := by intro x hx; revert x; decide
set_option maxRecDepth 100000 in
set_option maxHeartbeats 8000000 in
theorem turn_any (r p : List Nat) (b o c : Nat) (w : World) (hr : r.length = 8) (hra : All 4294967296 r) (hp : p.length = 64) (hpa : All 256 p)
    (hbs : Bs w b o p) (hb : b < w.heap.size) (ht : Tab1 w) (h1 : 1 < w.heap.size) :
    Calls Tryd.prog 47 #[.agg (c32 r), .slice (some ⟨b, o, none⟩) 64 c] w fun e w' => e = .returned (.agg (c32 (turn r p))) ∧ Below w.heap.size w w' := by
  go_enter Tryd.func47, Tryd.ntmps47
  go_wp2
  go_loopw [21] (fun i wr => ∃ k : Nat, k ≤ 16 ∧ i = .int .i64 k ∧ Below w.heap.size w wr ∧ Blk wr w.heap.size 73 (c32 r) ∧ Blk wr (w.heap.size + 1) 73 (c32 (List.replicate 8 0)) ∧ Blk wr (w.heap.size + 1 + 1) 91 (c32 ((w16 p).take k ++ List.replicate (64 - k) 0))) (fun i _ => 16 - (intOf i).toNat)
  case atStart =>
    refine ⟨0, by omega, rfl, (((Below.refl _ _).alloc (Nat.le_refl _) _).alloc (by simp) _).alloc (by simp; omega) _, ((Blk.new w 73 (c32 r)).alloc _).alloc _, (Blk.new_ (w.alloc _) 73 (c32 (List.replicate 8 0)) _ (by simp)).alloc _, Blk.new_ ((w.alloc _).alloc _) 91 _ _ (by simp)⟩

  case round =>
    obtain ⟨k, hk, rfl, hbel, B0, B1, B2⟩ := hrel
    by_cases hlt : k < 16
    · (
        have cc : ∀ j, j < 4 → ∃ x : Nat, x = p.getD (4 * k + j) 0 ∧ x < 256 ∧ wr.cell? ⟨b, o + (4 * k + j), none⟩ = some (.int .u8 (x : Int)) := fun j hj => ⟨_, rfl, hpa.getD (by decide) _, (hbel.cell (p := ⟨b, o + (4 * k + j), none⟩) hb).trans (hbs (4 * k + j) (by omega))⟩
        obtain ⟨x0, e0, l0, g0⟩ := cc 0 (by omega)
        obtain ⟨x1, e1, l1, g1⟩ := cc 1 (by omega)
        obtain ⟨x2, e2, l2, g2⟩ := cc 2 (by omega)
        obtain ⟨x3, e3, l3, g3⟩ := cc 3 (by omega)
        have E0 := Lib.hid e0; have E1 := Lib.hid e1; have E2 := Lib.hid e2; have E3 := Lib.hid e3
        clear e0 e1 e2 e3 cc
        go_wp2
        have L16 := w16_len p
        have g5 := B2.w32 k (by rw [List.length_append, List.length_take, List.length_replicate]; omega)
        have f5 := B2.frozen k
        rw [Nat.add_zero] at g0
        have hne : ∀ (W : World) (u : Value) (i j : Nat), (W.setCell ⟨w.heap.size + 1 + 1, i, none⟩ u).cell? ⟨b, j, none⟩ = W.cell? ⟨b, j, none⟩ := fun W u i j => World.cell?_setCell_other W _ _ u (by intro e; injection e; omega)
        have ak : (0 : Int) ≤ (k : Int) := by omega
        have bk : (k : Int) < 64 := by omega
        have n0 : (4 * (k : Int)).toNat = 4 * k := by omega
        have n1 : (4 * (k : Int) + 1).toNat = 4 * k + 1 := by omega
        have n2 : (4 * (k : Int) + 2).toNat = 4 * k + 2 := by omega
        have n3 : (4 * (k : Int) + 3).toNat = 4 * k + 3 := by omega
        have a0 : (0 : Int) ≤ 4 * (k : Int) := by omega
        have a1 : (0 : Int) ≤ 4 * (k : Int) + 1 := by omega
        have a2 : (0 : Int) ≤ 4 * (k : Int) + 2 := by omega
        have a3 : (0 : Int) ≤ 4 * (k : Int) + 3 := by omega
        have b0 : 4 * (k : Int) < 64 := by omega
        have b1 : 4 * (k : Int) + 1 < 64 := by omega
        have b2 : 4 * (k : Int) + 2 < 64 := by omega
        have b3 : 4 * (k : Int) + 3 < 64 := by omega
        have m0 : IntKind.i64.wrap (4 * (k : Int)) = 4 * (k : Int) := IntWalk.i64_in _ (by omega)
        have m1 : IntKind.i64.wrap (4 * (k : Int) + 1) = 4 * (k : Int) + 1 := IntWalk.i64_in _ (by omega)
        have m2 : IntKind.i64.wrap (4 * (k : Int) + 2) = 4 * (k : Int) + 2 := IntWalk.i64_in _ (by omega)
        have m3 : IntKind.i64.wrap (4 * (k : Int) + 3) = 4 * (k : Int) + 3 := IntWalk.i64_in _ (by omega)
        go_region_held3 (fun w' => w'.cell? ⟨b, o + 4 * k, none⟩ = some (.int .u8 (x0 : Int)) ∧ w'.cell? ⟨b, o + (4 * k + 1), none⟩ = some (.int .u8 (x1 : Int)) ∧ w'.cell? ⟨b, o + (4 * k + 2), none⟩ = some (.int .u8 (x2 : Int)) ∧ w'.cell? ⟨b, o + (4 * k + 3), none⟩ = some (.int .u8 (x3 : Int))) (go_keep) (fail)
        go_wp2
        go_roundw
        case rel =>
          rw [join4 x0 x1 x2 x3 l0 l1 l2 l3]
          refine ⟨k + 1, by omega, by go_num, (hbel.setCell (by show w.heap.size ≤ w.heap.size + 1 + 1; omega) _).drew, (B0.far (by show w.heap.size ≠ w.heap.size + 1 + 1; omega) _).drew, (B1.far (by show w.heap.size + 1 ≠ w.heap.size + 1 + 1; omega) _).drew, ?_⟩
          have h := (B2.set_ k (v32 ((w16 p).getD k 0))).drew
          rw [show 64 - k = (64 - (k + 1)) + 1 by omega, c32_push _ _ _ _ (by rw [List.length_take]; omega)] at h
          have e : (w16 p).getD k 0 = ((x0 * 256 + x1) * 256 + x2) * 256 + x3 := by
            rw [w16_at p k hlt, E0.out, E1.out, E2.out, E3.out, Nat.add_zero]
            rfl
          rw [List.take_succ_eq_append_getElem (by omega), show (w16 p)[k]'(by omega) = (w16 p).getD k 0 by rw [List.getD_eq_getElem?_getD, List.getElem?_eq_getElem (by omega)]; rfl]
          rw [e] at h ⊢
          exact h
        case measure => simp [intOf]; omega)
    · have L16 := w16_len p
      have hge : 16 ≤ k := by omega
      have B2' : Blk wr (w.heap.size + 1 + 1) 91 (c32 (sched p 0 ++ List.replicate (64 - 16) 0)) := by
        rw [List.take_of_length_le (by omega), show 64 - k = 64 - 16 by omega] at B2
        exact B2
      have C2 := Lib.hid B2'
      clear B2 B2' hlt
      obtain ⟨wo, rfl⟩ : ∃ wo : World, wo = wr := ⟨_, rfl⟩
      go_wp2
      go_loopw [7] (fun i wr => ∃ n : Nat, 16 ≤ n ∧ n ≤ 64 ∧ i = .int .i64 n ∧ Below w.heap.size w wr ∧ Blk wr w.heap.size 73 (c32 r) ∧ Blk wr (w.heap.size + 1) 73 (c32 (List.replicate 8 0)) ∧ Blk wr (w.heap.size + 1 + 1) 91 (c32 (sched p (n - 16) ++ List.replicate (64 - n) 0))) (fun i _ => 64 - (intOf i).toNat)
      case atStart => exact ⟨16, by omega, by omega, rfl, hbel, B0, B1, C2.out⟩
      case round =>
        clear hbel B0 B1 C2 hge hk L16
        obtain ⟨n, hn1, hn2, rfl, hbel, B0, B1, B2⟩ := hrel
        have hSl := sched_len p (n - 16)
        have hSa := sched_all hpa (n - 16)
        by_cases hlt : n < 64
        · (
            have cc : ∀ j, 1 ≤ j → j ≤ 16 → ∃ x : Nat, x = (sched p (n - 16)).getD (n - j) 0 ∧ x < 4294967296 ∧ wr.cell? ⟨w.heap.size + 1 + 1, n - j, none⟩ = some (.int .u32 (x : Int)) := fun j hj1 hj2 => ⟨_, rfl, hSa.getD (by decide) _, by
              have h := B2.w32 (n - j) (by rw [List.length_append, hSl, List.length_replicate]; omega)
              rw [List.getD_eq_getElem?_getD, List.getElem?_append_left (by omega), ← List.getD_eq_getElem?_getD] at h
              exact h⟩
            obtain ⟨x, e0, l0, g0⟩ := cc 15 (by omega) (by omega)
            obtain ⟨y, e1, l1, g1⟩ := cc 2 (by omega) (by omega)
            obtain ⟨x16, e2, l2, g2⟩ := cc 16 (by omega) (by omega)
            obtain ⟨x7, e3, l3, g3⟩ := cc 7 (by omega) (by omega)
            have E0 := Lib.hid e0; have E1 := Lib.hid e1; have E2 := Lib.hid e2; have E3 := Lib.hid e3; have HSl := Lib.hid hSl
            have g5 := B2.w32 n (by rw [List.length_append, hSl, List.length_replicate]; omega)
            have f5 := B2.frozen n
            clear e0 e1 e2 e3 cc hSl hSa
            have hn0 : ∀ (W : World) (u : Value), (W.setCell ⟨w.heap.size + 1 + 1, n, none⟩ u).cell? ⟨w.heap.size + 1 + 1, n - 16, none⟩ = W.cell? ⟨w.heap.size + 1 + 1, n - 16, none⟩ := fun W u => World.cell?_setCell_other W _ _ u (by intro e; injection e; omega)
            have hn7 : ∀ (W : World) (u : Value), (W.setCell ⟨w.heap.size + 1 + 1, n, none⟩ u).cell? ⟨w.heap.size + 1 + 1, n - 7, none⟩ = W.cell? ⟨w.heap.size + 1 + 1, n - 7, none⟩ := fun W u => World.cell?_setCell_other W _ _ u (by intro e; injection e; omega)
            have t15 : ((n : Int) - 15).toNat = n - 15 := by omega
            have t2 : ((n : Int) - 2).toNat = n - 2 := by omega
            have t16 : ((n : Int) - 16).toNat = n - 16 := by omega
            have t7 : ((n : Int) - 7).toNat = n - 7 := by omega
            have a15 : (0 : Int) ≤ (n : Int) - 15 := by omega
            have a2 : (0 : Int) ≤ (n : Int) - 2 := by omega
            have a16 : (0 : Int) ≤ (n : Int) - 16 := by omega
            have a7 : (0 : Int) ≤ (n : Int) - 7 := by omega
            have an : (0 : Int) ≤ (n : Int) := by omega
            have b15 : (n : Int) - 15 < 64 := by omega
            have b2 : (n : Int) - 2 < 64 := by omega
            have b16 : (n : Int) - 16 < 64 := by omega
            have b7 : (n : Int) - 7 < 64 := by omega
            have bn : (n : Int) < 64 := by omega
            have q16 : (16 : Int) ≤ (n : Int) := by omega
            have q7 : (7 : Int) ≤ (n : Int) := by omega
            have m15 : IntKind.i64.wrap ((n : Int) - 15) = (n : Int) - 15 := IntWalk.i64_in _ (by omega)
            have m2 : IntKind.i64.wrap ((n : Int) - 2) = (n : Int) - 2 := IntWalk.i64_in _ (by omega)
            have m16 : IntKind.i64.wrap ((n : Int) - 16) = (n : Int) - 16 := IntWalk.i64_in _ (by omega)
            have m7 : IntKind.i64.wrap ((n : Int) - 7) = (n : Int) - 7 := IntWalk.i64_in _ (by omega)
            go_wp2
            skip
            go_quiet (fail)
            go_wp2
            skip
            go_region_held3 (fun w' => w'.cell? ⟨w.heap.size + 1 + 1, n - 16, none⟩ = some (.int .u32 (x16 : Int)) ∧ w'.cell? ⟨w.heap.size + 1 + 1, n - 7, none⟩ = some (.int .u32 (x7 : Int))) (go_keep)
              (first
                | (go_at_call 62; (with_reducible refine (round_7 x _ l0).mono ?_); rintro e w' ⟨rfl, rfl⟩)
                | (go_at_call 62; (with_reducible refine (round_18 x _ l0).mono ?_); rintro e w' ⟨rfl, rfl⟩)
                | (go_at_call 62; (with_reducible refine (round_17 y _ l1).mono ?_); rintro e w' ⟨rfl, rfl⟩)
                | (go_at_call 62; (with_reducible refine (round_19 y _ l1).mono ?_); rintro e w' ⟨rfl, rfl⟩))
            skip
            go_wp2
            go_roundw
            case rel =>
              rw [sg0_int x l0, sg1_int y l1]
              have e : ((((x16 : Int) + ((sg0 x : Nat) : Int)) % 4294967296 + (x7 : Int)) % 4294967296 + ((sg1 y : Nat) : Int)) % 4294967296 = ((nextW (sched p (n - 16)) : Nat) : Int) := by
                unfold nextW
                rw [HSl.out, show 16 + (n - 16) = n by omega, ← E0.out, ← E1.out, ← E2.out, ← E3.out]
                omega
              rw [e]
              refine ⟨n + 1, by omega, by omega, by go_num, (below_drewN hbel _).setCell (by show w.heap.size ≤ w.heap.size + 1 + 1; omega) _, (B0.drewN _).far (by show w.heap.size ≠ w.heap.size + 1 + 1; omega) _, (B1.drewN _).far (by show w.heap.size + 1 ≠ w.heap.size + 1 + 1; omega) _, ?_⟩
              have h := (B2.drewN (nq + 1)).set_ n (v32 (nextW (sched p (n - 16))))
              rw [show 64 - n = (64 - (n + 1)) + 1 by omega, c32_push _ _ _ _ (by rw [HSl.out]; omega)] at h
              rw [show n + 1 - 16 = (n - 16) + 1 by omega]
              exact h
            case measure => simp [intOf]; omega)
        · have hge : 64 ≤ n := by omega
          have C2 : Hid (Blk wr (w.heap.size + 1 + 1) 91 (c32 (sched p 48))) := by
            have h := B2
            rw [show n - 16 = 48 by omega, show 64 - n = 0 by omega, List.replicate_zero, List.append_nil] at h
            exact h
          clear B2 hlt hSl hSa
          have nz : ∀ i, i < 8 → ∃ x : Nat, x = r.getD i 0 ∧ x < 4294967296 ∧ wr.cell? ⟨w.heap.size, i, none⟩ = some (.int .u32 (x : Int)) := fun i hi => ⟨_, rfl, hra.getD (by decide) i, B0.w32 i (by omega)⟩
          obtain ⟨y0, ey0, ly0, z0⟩ := nz 0 (by omega)
          obtain ⟨y1, ey1, ly1, z1⟩ := nz 1 (by omega)
          obtain ⟨y2, ey2, ly2, z2⟩ := nz 2 (by omega)
          obtain ⟨y3, ey3, ly3, z3⟩ := nz 3 (by omega)
          obtain ⟨y4, ey4, ly4, z4⟩ := nz 4 (by omega)
          obtain ⟨y5, ey5, ly5, z5⟩ := nz 5 (by omega)
          obtain ⟨y6, ey6, ly6, z6⟩ := nz 6 (by omega)
          obtain ⟨y7, ey7, ly7, z7⟩ := nz 7 (by omega)
          clear nz
          have EY0 := Lib.hid ey0; clear ey0
          have EY1 := Lib.hid ey1; clear ey1
          have EY2 := Lib.hid ey2; clear ey2
          have EY3 := Lib.hid ey3; clear ey3
          have EY4 := Lib.hid ey4; clear ey4
          have EY5 := Lib.hid ey5; clear ey5
          have EY6 := Lib.hid ey6; clear ey6
          have EY7 := Lib.hid ey7; clear ey7
          obtain ⟨wo2, rfl⟩ : ∃ wo2 : World, wo2 = wr := ⟨_, rfl⟩
          go_wp2
          go_quiet (fail)
          go_wp2
          clear z0 z1 z2 z3 z4 z5 z6 z7
          go_loopw [117, 10, 11, 12, 13, 14, 15, 16, 17] (fun t a b c d e f g h wr => ∃ n : Nat, n ≤ 64 ∧ t = .int .i64 n ∧ (∃ R : List Nat, R = regs r (sched p 48) n ∧ a = .int .u32 (R.getD 0 0 : Nat) ∧ b = .int .u32 (R.getD 1 0 : Nat) ∧ c = .int .u32 (R.getD 2 0 : Nat) ∧ d = .int .u32 (R.getD 3 0 : Nat) ∧ e = .int .u32 (R.getD 4 0 : Nat) ∧ f = .int .u32 (R.getD 5 0 : Nat) ∧ g = .int .u32 (R.getD 6 0 : Nat) ∧ h = .int .u32 (R.getD 7 0 : Nat)) ∧ Below w.heap.size w wr ∧ Blk wr w.heap.size 73 (c32 r) ∧ Blk wr (w.heap.size + 1) 73 (c32 (List.replicate 8 0)) ∧ Blk wr (w.heap.size + 1 + 1) 91 (c32 (sched p 48))) (fun t _ _ _ _ _ _ _ _ _ => 64 - (intOf t).toNat)
          case atStart => exact ⟨0, by omega, rfl, ⟨r, rfl, by rw [EY0.out], by rw [EY1.out], by rw [EY2.out], by rw [EY3.out], by rw [EY4.out], by rw [EY5.out], by rw [EY6.out], by rw [EY7.out]⟩, below_drewN hbel _, B0, B1, C2.out⟩
          case round =>
            clear hbel B0 B1 C2 hge hn1 hn2
            clear EY0 EY1 EY2 EY3 EY4 EY5 EY6 EY7 ly0 ly1 ly2 ly3 ly4 ly5 ly6 ly7
            obtain ⟨m, hm, rfl, ⟨R, hR, rfl, rfl, rfl, rfl, rfl, rfl, rfl, rfl⟩, hbel, B0, B1, B2⟩ := hrel
            have hRa : All 4294967296 R := hR ▸ regs_all hra m
            have hRl : R.length = 8 := hR ▸ regs_len hr m
            have nm : ∀ i, ∃ x : Nat, x = R.getD i 0 ∧ x < 4294967296 := fun i => ⟨_, rfl, hRa.getD (by decide) i⟩
            obtain ⟨A, eA, lA⟩ := nm 0
            obtain ⟨B, eB, lB⟩ := nm 1
            obtain ⟨C, eC, lC⟩ := nm 2
            obtain ⟨D, eD, lD⟩ := nm 3
            obtain ⟨E, eE, lE⟩ := nm 4
            obtain ⟨F, eF, lF⟩ := nm 5
            obtain ⟨G, eG, lG⟩ := nm 6
            obtain ⟨K, eK, lK⟩ := nm 7
            rw [← eA, ← eB, ← eC, ← eD, ← eE, ← eF, ← eG, ← eK]
            have HR := Lib.hid hR
            have EA := Lib.hid eA; have EB := Lib.hid eB; have EC := Lib.hid eC; have ED := Lib.hid eD; have EE := Lib.hid eE; have EF := Lib.hid eF; have EG := Lib.hid eG; have EK := Lib.hid eK
            clear nm eA eB eC eD eE eF eG eK hR hRl hRa
            by_cases hlt : m < 64
            · (
              obtain ⟨kt, ekt⟩ : ∃ x : Nat, x = roots.getD m 0 := ⟨_, rfl⟩
              obtain ⟨ww, eww⟩ : ∃ x : Nat, x = (sched p 48).getD m 0 := ⟨_, rfl⟩
              have lk : kt < 4294967296 := ekt ▸ roots_all.getD (by decide) m
              have lw : ww < 4294967296 := eww ▸ (sched_all hpa 48).getD (by decide) m
              have gk : wr.cell? ⟨1, m, none⟩ = some (.int .u32 (kt : Int)) := by rw [hbel.cell (p := ⟨1, m, none⟩) h1, ht m hlt, ekt]; rfl
              have gw : wr.cell? ⟨w.heap.size + 1 + 1, m, none⟩ = some (.int .u32 (ww : Int)) := by rw [B2.w32 m (by rw [sched_len]; omega), eww]
              have EK' := Lib.hid ekt; have EW := Lib.hid eww
              clear ekt eww
              have am : (0 : Int) ≤ (m : Int) := by omega
              have bm : (m : Int) < 64 := by omega
              go_wp2
              go_quiet (first
                | (go_at_call 62; with_reducible exact quiet_left (round_6 E _ lE))
                | (go_at_call 62; with_reducible exact quiet_left (round_11 E _ lE))
                | (go_at_call 62; with_reducible exact quiet_left (round_25 E _ lE)))
              go_wp2_with (first
                | (go_at_call 62; (with_reducible refine (round_2 A _ lA).mono ?_); rintro e w' ⟨rfl, rfl⟩)
                | (go_at_call 62; (with_reducible refine (round_13 A _ lA).mono ?_); rintro e w' ⟨rfl, rfl⟩)
                | (go_at_call 62; (with_reducible refine (round_22 A _ lA).mono ?_); rintro e w' ⟨rfl, rfl⟩))
              go_roundw
              case rel =>
                rw [bg1_int E lE, cho_int E F G lE lF lG, bg0_int A lA, maj_int A B C lA lB lC]
                refine ⟨m + 1, by omega, by go_num, ⟨stepR R (roots.getD m 0) ((sched p 48).getD m 0), by rw [HR.out]; rfl, ?_, ?_, ?_, ?_, ?_, ?_, ?_, ?_⟩, below_drewN hbel _, B0, B1, B2⟩
                · show _ = Value.int .u32 (((stepU R (roots.getD m 0) ((sched p 48).getD m 0) + stepV R) % 4294967296 : Nat) : Int)
                  unfold stepU stepV
                  rw [← EA.out, ← EB.out, ← EC.out, ← EE.out, ← EF.out, ← EG.out, ← EK.out, ← EK'.out, ← EW.out]
                  congr 1; try omega
                · rw [EA.out]; rfl
                · rw [EB.out]; rfl
                · rw [EC.out]; rfl
                · show _ = Value.int .u32 (((R.getD 3 0 + stepU R (roots.getD m 0) ((sched p 48).getD m 0)) % 4294967296 : Nat) : Int)
                  unfold stepU
                  rw [← ED.out, ← EE.out, ← EF.out, ← EG.out, ← EK.out, ← EK'.out, ← EW.out]
                  congr 1; try omega
                · rw [EE.out]; rfl
                · rw [EF.out]; rfl
                · rw [EG.out]; rfl
              case measure => simp [intOf]; omega)
            · have hm64 : m = 64 := by omega
              have nz : ∀ i, i < 8 → ∃ x : Nat, x = r.getD i 0 ∧ x < 4294967296 ∧ wr.cell? ⟨w.heap.size, i, none⟩ = some (.int .u32 (x : Int)) := fun i hi => ⟨_, rfl, hra.getD (by decide) i, B0.w32 i (by omega)⟩
              obtain ⟨y0, ey0, ly0, z0⟩ := nz 0 (by omega)
              obtain ⟨y1, ey1, ly1, z1⟩ := nz 1 (by omega)
              obtain ⟨y2, ey2, ly2, z2⟩ := nz 2 (by omega)
              obtain ⟨y3, ey3, ly3, z3⟩ := nz 3 (by omega)
              obtain ⟨y4, ey4, ly4, z4⟩ := nz 4 (by omega)
              obtain ⟨y5, ey5, ly5, z5⟩ := nz 5 (by omega)
              obtain ⟨y6, ey6, ly6, z6⟩ := nz 6 (by omega)
              obtain ⟨y7, ey7, ly7, z7⟩ := nz 7 (by omega)
              clear nz
              have EY0 := Lib.hid ey0; clear ey0
              have EY1 := Lib.hid ey1; clear ey1
              have EY2 := Lib.hid ey2; clear ey2
              have EY3 := Lib.hid ey3; clear ey3
              have EY4 := Lib.hid ey4; clear ey4
              have EY5 := Lib.hid ey5; clear ey5
              have EY6 := Lib.hid ey6; clear ey6
              have EY7 := Lib.hid ey7; clear ey7
              have hge : 64 ≤ m := by omega
              clear hlt
              have HM := Lib.hid hm64; clear hm64
              have o0 : ∀ j, j < 8 → wr.cell? ⟨w.heap.size + 1, j, none⟩ = some (.int .u32 0) := fun j hj => by
                rw [B1.w32 j (by rw [List.length_replicate]; omega), List.getD_eq_getElem?_getD, List.getElem?_replicate, if_pos hj]
                rfl
              have q0 := o0 0 (by omega); have q1 := o0 1 (by omega); have q2 := o0 2 (by omega); have q3 := o0 3 (by omega)
              have q4 := o0 4 (by omega); have q5 := o0 5 (by omega); have q6 := o0 6 (by omega); have q7 := o0 7 (by omega)
              have f0 := B1.frozen 0; have f1 := B1.frozen 1; have f2 := B1.frozen 2; have f3 := B1.frozen 3
              have f4 := B1.frozen 4; have f5 := B1.frozen 5; have f6 := B1.frozen 6; have f7 := B1.frozen 7
              clear o0
              go_wp2
              have hB := ((((((((B1.set_ 0 (v32 ((y0 + A) % 4294967296))).set_ 1 (v32 ((y1 + B) % 4294967296))).set_ 2 (v32 ((y2 + C) % 4294967296))).set_ 3 (v32 ((y3 + D) % 4294967296))).set_ 4 (v32 ((y4 + E) % 4294967296))).set_ 5 (v32 ((y5 + F) % 4294967296))).set_ 6 (v32 ((y6 + G) % 4294967296))).set_ 7 (v32 ((y7 + K) % 4294967296)))
              have hbe : w.heap.size ≤ w.heap.size + 1 := by omega
              have hBel := (((((((hbel.setCell (p := ⟨w.heap.size + 1, 0, none⟩) hbe (v32 ((y0 + A) % 4294967296))).setCell (p := ⟨w.heap.size + 1, 1, none⟩) hbe (v32 ((y1 + B) % 4294967296))).setCell (p := ⟨w.heap.size + 1, 2, none⟩) hbe (v32 ((y2 + C) % 4294967296))).setCell (p := ⟨w.heap.size + 1, 3, none⟩) hbe (v32 ((y3 + D) % 4294967296))).setCell (p := ⟨w.heap.size + 1, 4, none⟩) hbe (v32 ((y4 + E) % 4294967296))).setCell (p := ⟨w.heap.size + 1, 5, none⟩) hbe (v32 ((y5 + F) % 4294967296))).setCell (p := ⟨w.heap.size + 1, 6, none⟩) hbe (v32 ((y6 + G) % 4294967296))).setCell (p := ⟨w.heap.size + 1, 7, none⟩) hbe (v32 ((y7 + K) % 4294967296))
              have hv : ∀ a b : Nat, (((a : Int) + (b : Int)) % 4294967296) = (((a + b) % 4294967296 : Nat) : Int) := fun a b => by omega
              have e : (((((((((c32 (List.replicate 8 0)).setIfInBounds 0 (v32 ((y0 + A) % 4294967296))).setIfInBounds 1 (v32 ((y1 + B) % 4294967296))).setIfInBounds 2 (v32 ((y2 + C) % 4294967296))).setIfInBounds 3 (v32 ((y3 + D) % 4294967296))).setIfInBounds 4 (v32 ((y4 + E) % 4294967296))).setIfInBounds 5 (v32 ((y5 + F) % 4294967296))).setIfInBounds 6 (v32 ((y6 + G) % 4294967296))).setIfInBounds 7 (v32 ((y7 + K) % 4294967296))) = c32 (turn r p) := by
                rw [EY0.out, EY1.out, EY2.out, EY3.out, EY4.out, EY5.out, EY6.out, EY7.out, EA.out, EB.out, EC.out, ED.out, EE.out, EF.out, EG.out, EK.out, HR.out, HM.out]
                rfl
              rw [e] at hB
              simp only [hv]
              exact bodyPost_ret (results_cell_row rfl _ _ (w.heap.size + 1) 73 (c32 (turn r p)) (0, 0) _ rfl hB Tryd.underlying73 rfl (by kernel_rfl)) rfl ⟨rfl, hBel⟩
end Go.Proofs.YtfedlgcpgfofjaaDoor.Sha
