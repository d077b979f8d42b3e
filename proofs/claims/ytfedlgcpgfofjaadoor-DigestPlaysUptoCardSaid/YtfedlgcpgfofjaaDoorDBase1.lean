/-
  SHA-256 on lists of naturals, the coding of words as bytes, and what of it the walks want.
  The program's register.turn and round: what the calls do, walked.
  The reference's turn and round: what the calls do, walked.
  Words for walks over arrays that lie in blocks: a part of a block is read, written, copied into.
  The reference's functions over the register: what the calls do, walked.
  Bytes in a row of the call's own: appended to, made, handed on.
  The reference's words: what the call does, walked.
-/
import Derived.Test.YtfedlgcpgfofjaaDoorProg
import Derived.WalkKit
import Derived.KernelRfl
import Derived.Lib.Hide
import Derived.LoopTactic
import Derived.Deep.QuietTactic
import Derived.BigQuiet
import Derived.Deep.RegionHeld3
import Derived.Deep.DrawnRows
import Derived.Laws.BitsLemmas
import Derived.Laws.Rows
import Derived.Outline
import Derived.IntWalk
import Derived.Below
import Derived.StillTailTactics
import Derived.Test.YtfedlgcpgfofjaaDoorWWords
import Derived.Deep.MidRow
import Derived.Laws.CopyOwn
import Derived.OwnWalk
import Derived.Maps.AppendAt
import Derived.Deep.AppendLies
import Derived.RegionTactic
namespace Go.Proofs.YtfedlgcpgfofjaaDoor.Sha
set_option linter.unusedVariables false
/-- a right turn of a word -/
def rotr (x n : Nat) : Nat := x / 2 ^ n ||| x * 2 ^ (32 - n) % 4294967296
def sg0 (x : Nat) : Nat := rotr x 7 ^^^ rotr x 18 ^^^ x / 8
def sg1 (x : Nat) : Nat := rotr x 17 ^^^ rotr x 19 ^^^ x / 1024
def bg0 (x : Nat) : Nat := rotr x 2 ^^^ rotr x 13 ^^^ rotr x 22
def bg1 (x : Nat) : Nat := rotr x 6 ^^^ rotr x 11 ^^^ rotr x 25
def cho (e f g : Nat) : Nat := (e &&& f) ^^^ ((4294967295 - e) &&& g)
def maj (a b c : Nat) : Nat := (a &&& b) ^^^ (a &&& c) ^^^ (b &&& c)
def roots : List Nat := [
  0x428a2f98, 0x71374491, 0xb5c0fbcf, 0xe9b5dba5, 0x3956c25b, 0x59f111f1, 0x923f82a4, 0xab1c5ed5,
  0xd807aa98, 0x12835b01, 0x243185be, 0x550c7dc3, 0x72be5d74, 0x80deb1fe, 0x9bdc06a7, 0xc19bf174,
  0xe49b69c1, 0xefbe4786, 0x0fc19dc6, 0x240ca1cc, 0x2de92c6f, 0x4a7484aa, 0x5cb0a9dc, 0x76f988da,
  0x983e5152, 0xa831c66d, 0xb00327c8, 0xbf597fc7, 0xc6e00bf3, 0xd5a79147, 0x06ca6351, 0x14292967,
  0x27b70a85, 0x2e1b2138, 0x4d2c6dfc, 0x53380d13, 0x650a7354, 0x766a0abb, 0x81c2c92e, 0x92722c85,
  0xa2bfe8a1, 0xa81a664b, 0xc24b8b70, 0xc76c51a3, 0xd192e819, 0xd6990624, 0xf40e3585, 0x106aa070,
  0x19a4c116, 0x1e376c08, 0x2748774c, 0x34b0bcb5, 0x391c0cb3, 0x4ed8aa4a, 0x5b9cca4f, 0x682e6ff3,
  0x748f82ee, 0x78a5636f, 0x84c87814, 0x8cc70208, 0x90befffa, 0xa4506ceb, 0xbef9a3f7, 0xc67178f2]
def first : List Nat := [0x6a09e667, 0xbb67ae85, 0x3c6ef372, 0xa54ff53a, 0x510e527f, 0x9b05688c, 0x1f83d9ab, 0x5be0cd19]
def word4 (p : List Nat) (i : Nat) : Nat := ((p.getD (4 * i) 0 * 256 + p.getD (4 * i + 1) 0) * 256 + p.getD (4 * i + 2) 0) * 256 + p.getD (4 * i + 3) 0
def w16 (p : List Nat) : List Nat := (List.range 16).map (word4 p)
def nextW (l : List Nat) : Nat := (l.getD (l.length - 16) 0 + sg0 (l.getD (l.length - 15) 0) + l.getD (l.length - 7) 0 + sg1 (l.getD (l.length - 2) 0)) % 4294967296
def sched (p : List Nat) : Nat → List Nat
  | 0 => w16 p
  | n + 1 => sched p n ++ [nextW (sched p n)]
def stepU (r : List Nat) (k w : Nat) : Nat := (r.getD 7 0 + bg1 (r.getD 4 0) + cho (r.getD 4 0) (r.getD 5 0) (r.getD 6 0) + k + w) % 4294967296
def stepV (r : List Nat) : Nat := (bg0 (r.getD 0 0) + maj (r.getD 0 0) (r.getD 1 0) (r.getD 2 0)) % 4294967296
def stepR (r : List Nat) (k w : Nat) : List Nat := [(stepU r k w + stepV r) % 4294967296, r.getD 0 0, r.getD 1 0, r.getD 2 0, (r.getD 3 0 + stepU r k w) % 4294967296, r.getD 4 0, r.getD 5 0, r.getD 6 0]
def regs (r ws : List Nat) : Nat → List Nat
  | 0 => r
  | t + 1 => stepR (regs r ws t) (roots.getD t 0) (ws.getD t 0)
def addR (r s : List Nat) : List Nat := (List.range 8).map fun i => (r.getD i 0 + s.getD i 0) % 4294967296
def turn (r p : List Nat) : List Nat := addR r (regs r (sched p 48) 64)
def blocks (r : List Nat) (p : List Nat) : Nat → List Nat
  | 0 => r
  | n + 1 => turn (blocks r p n) ((p.drop (64 * n)).take 64)
def bytesW (w : Nat) : List Nat := [w / 16777216 % 256, w / 65536 % 256, w / 256 % 256, w % 256]
def bytesR (r : List Nat) : List Nat := r.flatMap bytesW
def eight (n : Nat) : List Nat := (List.range 8).map fun i => n / 2 ^ (8 * (7 - i)) % 256
def padded (p : List Nat) (n : Nat) : List Nat := p ++ [128] ++ List.replicate ((119 - p.length % 64) % 64) 0 ++ eight (n * 8)
def sum (p : List Nat) : List Nat := bytesR (blocks first (padded p p.length) ((padded p p.length).length / 64))
def hexd (n : Nat) : Nat := if n < 10 then 48 + n else 87 + n

theorem rotr_lt {x : Nat} (n : Nat) (hx : x < 4294967296) : rotr x n < 4294967296 := by
  unfold rotr
  exact Nat.or_lt_two_pow (n := 32) (Nat.lt_of_le_of_lt (Nat.div_le_self _ _) hx) (Nat.mod_lt _ (by decide))
theorem sg0_lt {x : Nat} (hx : x < 4294967296) : sg0 x < 4294967296 :=
  Nat.xor_lt_two_pow (n := 32) (Nat.xor_lt_two_pow (n := 32) (rotr_lt 7 hx) (rotr_lt 18 hx)) (by omega)
theorem sg1_lt {x : Nat} (hx : x < 4294967296) : sg1 x < 4294967296 :=
  Nat.xor_lt_two_pow (n := 32) (Nat.xor_lt_two_pow (n := 32) (rotr_lt 17 hx) (rotr_lt 19 hx)) (by omega)
theorem bg0_lt {x : Nat} (hx : x < 4294967296) : bg0 x < 4294967296 :=
  Nat.xor_lt_two_pow (n := 32) (Nat.xor_lt_two_pow (n := 32) (rotr_lt 2 hx) (rotr_lt 13 hx)) (rotr_lt 22 hx)
theorem bg1_lt {x : Nat} (hx : x < 4294967296) : bg1 x < 4294967296 :=
  Nat.xor_lt_two_pow (n := 32) (Nat.xor_lt_two_pow (n := 32) (rotr_lt 6 hx) (rotr_lt 11 hx)) (rotr_lt 25 hx)
/-- Every element is below a bound. -/
def All (B : Nat) (l : List Nat) : Prop := ∀ x ∈ l, x < B
theorem All.getD {B : Nat} {l : List Nat} (h : All B l) (hB : 0 < B) (i : Nat) : l.getD i 0 < B := by
  rw [List.getD_eq_getElem?_getD]
  cases e : l[i]? with
  | none => exact hB
  | some x => exact h x (List.mem_of_getElem? e)
theorem All.app {B : Nat} {l m : List Nat} (h : All B l) (k : All B m) : All B (l ++ m) := by
  intro x hx
  rcases List.mem_append.1 hx with h' | h'
  · exact h x h'
  · exact k x h'
theorem All.one {B x : Nat} (h : x < B) : All B [x] := by
  intro y hy
  obtain rfl := List.mem_singleton.1 hy
  exact h
theorem All.nil {B : Nat} : All B [] := fun _ h => by cases h
theorem All.take {B : Nat} {l : List Nat} (h : All B l) (n : Nat) : All B (l.take n) := fun x hx => h x (List.mem_of_mem_take hx)
theorem All.drop {B : Nat} {l : List Nat} (h : All B l) (n : Nat) : All B (l.drop n) := fun x hx => h x (List.mem_of_mem_drop hx)
theorem All.rep {B x : Nat} (h : x < B) (n : Nat) : All B (List.replicate n x) := fun y hy => by rw [List.eq_of_mem_replicate hy]; exact h
theorem word4_lt {p : List Nat} (hp : All 256 p) (i : Nat) : word4 p i < 4294967296 := by
  unfold word4
  have := hp.getD (by decide) (4 * i); have := hp.getD (by decide) (4 * i + 1); have := hp.getD (by decide) (4 * i + 2); have := hp.getD (by decide) (4 * i + 3)
  omega
theorem w16_len (p : List Nat) : (w16 p).length = 16 := by simp [w16]
theorem w16_all {p : List Nat} (hp : All 256 p) : All 4294967296 (w16 p) := by
  intro x hx
  obtain ⟨i, _, rfl⟩ := List.mem_map.1 hx
  exact word4_lt hp i
theorem nextW_lt (l : List Nat) : nextW l < 4294967296 := Nat.mod_lt _ (by decide)
theorem sched_len (p : List Nat) : ∀ n, (sched p n).length = 16 + n
  | 0 => w16_len p
  | n + 1 => by rw [sched, List.length_append, sched_len p n]; rfl
theorem sched_all {p : List Nat} (hp : All 256 p) : ∀ n, All 4294967296 (sched p n)
  | 0 => w16_all hp
  | n + 1 => (sched_all hp n).app (All.one (nextW_lt _))
theorem sched_pre (p : List Nat) (n : Nat) : ∀ d, sched p n = (sched p (n + d)).take (16 + n)
  | 0 => by rw [Nat.add_zero, List.take_of_length_le (by rw [sched_len]; omega)]
  | d + 1 => by
    rw [← Nat.add_assoc, sched, List.take_append_of_le_length (by rw [sched_len]; omega)]
    exact sched_pre p n d
/-- The 64 words of a block. -/
def S64 (p : List Nat) : List Nat := sched p 48
theorem S64_len (p : List Nat) : (S64 p).length = 64 := sched_len p 48
theorem S64_all {p : List Nat} (hp : All 256 p) : All 4294967296 (S64 p) := sched_all hp 48
theorem getD_take (l : List Nat) (n i : Nat) (h : i < n) : (l.take n).getD i 0 = l.getD i 0 := by
  rw [List.getD_eq_getElem?_getD, List.getElem?_take, if_pos h, ← List.getD_eq_getElem?_getD]
theorem S64_low (p : List Nat) (t : Nat) (h : t < 16) : (S64 p).getD t 0 = word4 p t := by
  rw [← getD_take _ 16 t h]
  have e := sched_pre p 0 48
  rw [Nat.zero_add, Nat.add_zero] at e
  show ((sched p 48).take 16).getD t 0 = _
  rw [← e]
  simp [sched, w16, List.getD_eq_getElem?_getD, h]
theorem S64_high (p : List Nat) (t : Nat) (h0 : 16 ≤ t) (h : t < 64) : (S64 p).getD t 0 = ((S64 p).getD (t - 16) 0 + sg0 ((S64 p).getD (t - 15) 0) + (S64 p).getD (t - 7) 0 + sg1 ((S64 p).getD (t - 2) 0)) % 4294967296 := by
  have e1 := sched_pre p (t - 16) (48 - (t - 16))
  have e2 := sched_pre p (t - 16 + 1) (48 - (t - 16 + 1))
  rw [show t - 16 + (48 - (t - 16)) = 48 by omega, show 16 + (t - 16) = t by omega] at e1
  rw [show t - 16 + 1 + (48 - (t - 16 + 1)) = 48 by omega, show 16 + (t - 16 + 1) = t + 1 by omega] at e2
  have hl : (sched p (t - 16)).length = t := by rw [sched_len]; omega
  have h1 : (sched p (t - 16 + 1)).getD t 0 = nextW (sched p (t - 16)) := by
    rw [sched, List.getD_eq_getElem?_getD, List.getElem?_append_right (by omega), hl, Nat.sub_self]
    rfl
  rw [e2, getD_take _ _ _ (by omega)] at h1
  unfold S64
  rw [h1]
  unfold nextW
  rw [hl, e1, getD_take _ _ _ (by omega), getD_take _ _ _ (by omega), getD_take _ _ _ (by omega), getD_take _ _ _ (by omega)]
theorem stepR_len (r : List Nat) (k w : Nat) : (stepR r k w).length = 8 := rfl
theorem stepR_all {r : List Nat} (hr : All 4294967296 r) (k w : Nat) : All 4294967296 (stepR r k w) := by
  intro x hx
  simp only [stepR, List.mem_cons, List.not_mem_nil, or_false] at hx
  rcases hx with h | h | h | h | h | h | h | h <;> rw [h] <;> first | exact Nat.mod_lt _ (by decide) | exact hr.getD (by decide) _
theorem regs_all {r ws : List Nat} (hr : All 4294967296 r) : ∀ t, All 4294967296 (regs r ws t)
  | 0 => hr
  | t + 1 => stepR_all (regs_all hr t) _ _
theorem regs_len {r ws : List Nat} (hr : r.length = 8) : ∀ t, (regs r ws t).length = 8
  | 0 => hr
  | _ + 1 => rfl
theorem addR_len (r s : List Nat) : (addR r s).length = 8 := by simp [addR]
theorem addR_all (r s : List Nat) : All 4294967296 (addR r s) := by
  intro x hx
  obtain ⟨i, _, rfl⟩ := List.mem_map.1 hx
  exact Nat.mod_lt _ (by decide)
theorem turn_len (r p : List Nat) : (turn r p).length = 8 := addR_len _ _
theorem turn_all (r p : List Nat) : All 4294967296 (turn r p) := addR_all _ _
theorem blocks_len {r : List Nat} (hr : r.length = 8) (p : List Nat) : ∀ n, (blocks r p n).length = 8
  | 0 => hr
  | n + 1 => turn_len _ _
theorem blocks_all {r : List Nat} (hr : All 4294967296 r) (p : List Nat) : ∀ n, All 4294967296 (blocks r p n)
  | 0 => hr
  | n + 1 => turn_all _ _
end Go.Proofs.YtfedlgcpgfofjaaDoor.Sha
namespace Go.Proofs.YtfedlgcpgfofjaaDoor.Sha
open Go.RowKit
set_option linter.unusedVariables false
theorem u32_wrap (n : Nat) (h : n < 4294967296) : IntKind.u32.wrap (n : Int) = (n : Int) := by rw [IntKind.wrap_u32]; omega
theorem u32_ofInt (a : Nat) (ha : a < 4294967296) : (BitVec.ofInt 32 (a : Int)).toNat = a := by
  rw [BitVec.ofInt_natCast, BitVec.toNat_ofNat]; exact Nat.mod_eq_of_lt (by omega)
theorem u32_and (a b : Nat) (ha : a < 4294967296) (hb : b < 4294967296) : bits .and .u32 (a : Int) (b : Int) = ((a &&& b : Nat) : Int) := by
  have hx : a &&& b < 4294967296 := Nat.and_lt_two_pow (n := 32) _ hb
  show IntKind.u32.wrap ((BitVec.ofInt 32 (a : Int) &&& BitVec.ofInt 32 (b : Int)).toNat : Int) = _
  rw [BitVec.toNat_and, u32_ofInt a ha, u32_ofInt b hb, u32_wrap _ hx]
theorem u32_or (a b : Nat) (ha : a < 4294967296) (hb : b < 4294967296) : bits .or .u32 (a : Int) (b : Int) = ((a ||| b : Nat) : Int) := by
  have hx : a ||| b < 4294967296 := Nat.or_lt_two_pow (n := 32) ha hb
  show IntKind.u32.wrap ((BitVec.ofInt 32 (a : Int) ||| BitVec.ofInt 32 (b : Int)).toNat : Int) = _
  rw [BitVec.toNat_or, u32_ofInt a ha, u32_ofInt b hb, u32_wrap _ hx]
theorem u32_xor (a b : Nat) (ha : a < 4294967296) (hb : b < 4294967296) : bits .xor .u32 (a : Int) (b : Int) = ((a ^^^ b : Nat) : Int) := by
  have hx : a ^^^ b < 4294967296 := Nat.xor_lt_two_pow (n := 32) ha hb
  show IntKind.u32.wrap ((BitVec.ofInt 32 (a : Int) ^^^ BitVec.ofInt 32 (b : Int)).toNat : Int) = _
  rw [BitVec.toNat_xor, u32_ofInt a ha, u32_ofInt b hb, u32_wrap _ hx]
theorem round_any (x n : Nat) (w : World) (hx : x < 4294967296) (h0 : 1 ≤ n) (hn : n ≤ 31) :
    Calls Tryd.prog 62 #[.int .u32 x, .int .u64 n] w fun e w' => e = .returned (.int .u32 (rotr x n)) ∧ w = w' := by
  have h1 : (0 : Int) ≤ n := by omega
  have h2 : (n : Int) ≤ 31 := by omega
  have h3 : (0 : Int) ≤ x := by omega
  have h4 : (x : Int) < 4294967296 := by omega
  go_enter Tryd.func62, Tryd.ntmps62
  go_wp2
  go_ret
  refine ⟨?_, rfl⟩
  show Ending.returned (Value.int .u32 (bits .or .u32 ((x : Int) / 2 ^ n) ((x : Int) * 2 ^ (32 - n) % 4294967296))) = _
  rw [show ((x : Int) / 2 ^ n) = ((x / 2 ^ n : Nat) : Int) by simp, show ((x : Int) * 2 ^ (32 - n) % 4294967296) = ((x * 2 ^ (32 - n) % 4294967296 : Nat) : Int) by simp,
    u32_or _ _ (Nat.lt_of_le_of_lt (Nat.div_le_self _ _) hx) (Nat.mod_lt _ (by decide))]
  rfl
theorem round_2 (x : Nat) (w : World) (hx : x < 4294967296) : Calls Tryd.prog 62 #[.int .u32 x, .int .u64 2] w fun e w' => e = .returned (.int .u32 (rotr x 2)) ∧ w = w' := round_any x 2 w hx (by decide) (by decide)
theorem round_6 (x : Nat) (w : World) (hx : x < 4294967296) : Calls Tryd.prog 62 #[.int .u32 x, .int .u64 6] w fun e w' => e = .returned (.int .u32 (rotr x 6)) ∧ w = w' := round_any x 6 w hx (by decide) (by decide)
theorem round_7 (x : Nat) (w : World) (hx : x < 4294967296) : Calls Tryd.prog 62 #[.int .u32 x, .int .u64 7] w fun e w' => e = .returned (.int .u32 (rotr x 7)) ∧ w = w' := round_any x 7 w hx (by decide) (by decide)
theorem round_11 (x : Nat) (w : World) (hx : x < 4294967296) : Calls Tryd.prog 62 #[.int .u32 x, .int .u64 11] w fun e w' => e = .returned (.int .u32 (rotr x 11)) ∧ w = w' := round_any x 11 w hx (by decide) (by decide)
theorem round_13 (x : Nat) (w : World) (hx : x < 4294967296) : Calls Tryd.prog 62 #[.int .u32 x, .int .u64 13] w fun e w' => e = .returned (.int .u32 (rotr x 13)) ∧ w = w' := round_any x 13 w hx (by decide) (by decide)
theorem round_17 (x : Nat) (w : World) (hx : x < 4294967296) : Calls Tryd.prog 62 #[.int .u32 x, .int .u64 17] w fun e w' => e = .returned (.int .u32 (rotr x 17)) ∧ w = w' := round_any x 17 w hx (by decide) (by decide)
theorem round_18 (x : Nat) (w : World) (hx : x < 4294967296) : Calls Tryd.prog 62 #[.int .u32 x, .int .u64 18] w fun e w' => e = .returned (.int .u32 (rotr x 18)) ∧ w = w' := round_any x 18 w hx (by decide) (by decide)
theorem round_19 (x : Nat) (w : World) (hx : x < 4294967296) : Calls Tryd.prog 62 #[.int .u32 x, .int .u64 19] w fun e w' => e = .returned (.int .u32 (rotr x 19)) ∧ w = w' := round_any x 19 w hx (by decide) (by decide)
theorem round_22 (x : Nat) (w : World) (hx : x < 4294967296) : Calls Tryd.prog 62 #[.int .u32 x, .int .u64 22] w fun e w' => e = .returned (.int .u32 (rotr x 22)) ∧ w = w' := round_any x 22 w hx (by decide) (by decide)
theorem round_25 (x : Nat) (w : World) (hx : x < 4294967296) : Calls Tryd.prog 62 #[.int .u32 x, .int .u64 25] w fun e w' => e = .returned (.int .u32 (rotr x 25)) ∧ w = w' := round_any x 25 w hx (by decide) (by decide)
/-- Words, bytes as cells. -/
def v32 (x : Nat) : Value := .int .u32 (x : Int)
def v8 (x : Nat) : Value := .int .u8 (x : Int)
def c32 (l : List Nat) : Array Value := (l.map v32).toArray
def c8 (l : List Nat) : Array Value := (l.map v8).toArray
/-- The tables. -/
def Tab1 (w : World) : Prop := ∀ j, j < 64 → w.cell? ⟨1, j, none⟩ = some (v32 (roots.getD j 0))
/-- Bytes that lie at an address. -/
def Bs (w : World) (b o : Nat) (p : List Nat) : Prop := ∀ j, j < p.length → w.cell? ⟨b, o + j, none⟩ = some (v8 (p.getD j 0))
def Blk (w : World) (g : Nat) (t : TypeId) (cs : Array Value) : Prop := w.heap[g]? = some (.cells cs t (0, 0))
section
variable {w w' : World} {g : Nat} {t : TypeId} {cs : Array Value}
theorem Blk.lt (h : Blk w g t cs) : g < w.heap.size := by
  rcases Nat.lt_or_ge g w.heap.size with hlt | hge
  · exact hlt
  · unfold Blk at h; rw [Array.getElem?_eq_none hge] at h; cases h
theorem Blk.cell (h : Blk w g t cs) (i : Nat) : w.cell? ⟨g, i, none⟩ = cs[i]? := cell_of_row w g i cs t (0, 0) h
theorem Blk.frozen (h : Blk w g t cs) (i : Nat) : w.frozen? ⟨g, i, none⟩ = false := by
  unfold Blk at h
  simp [World.frozen?, h]
theorem Blk.new (w : World) (t : TypeId) (cs : Array Value) : Blk (w.alloc (.cells cs t)) w.heap.size t cs := heap_alloc_new w _
theorem Blk.new_ (w : World) (t : TypeId) (cs : Array Value) (n : Nat) (h : w.heap.size = n) : Blk (w.alloc (.cells cs t)) n t cs := h ▸ Blk.new w t cs
theorem Blk.drew (h : Blk w g t cs) : Blk w.drew g t cs := h
theorem Blk.drewN (h : Blk w g t cs) (n : Nat) : Blk (w.drewN n) g t cs := h
theorem Blk.alloc (h : Blk w g t cs) (o : Obj) : Blk (w.alloc o) g t cs := (Below.heap_alloc w o g h.lt).trans h
theorem Blk.set_ (h : Blk w g t cs) (i : Nat) (u : Value) : Blk (w.setCell ⟨g, i, none⟩ u) g t (cs.setIfInBounds i u) := by
  unfold Blk at h ⊢
  simp [World.setCell, Array.getElem?_modify, h]
theorem Blk.far (h : Blk w g t cs) {p : Addr} (hp : g ≠ p.block) (u : Value) : Blk (w.setCell p u) g t cs := (Below.heap_setCell w p u g hp).trans h
theorem Blk.below {B : Nat} (h : Blk w g t cs) (hb : Below B w w') (hg : g < B) : Blk w' g t cs := (hb.block g hg).trans h
end
theorem below_drewN {B : Nat} {a w : World} (h : Below B a w) (n : Nat) : Below B a (w.drewN n) := ⟨h.os, h.tape, h.output, h.size, h.block⟩
theorem c32_at (l : List Nat) (i : Nat) (h : i < l.length) : (c32 l)[i]? = some (v32 (l.getD i 0)) := by
  simp [c32, List.getD_eq_getElem?_getD, List.getElem?_eq_getElem h]
theorem c8_at (l : List Nat) (i : Nat) (h : i < l.length) : (c8 l)[i]? = some (v8 (l.getD i 0)) := by
  simp [c8, List.getD_eq_getElem?_getD, List.getElem?_eq_getElem h]
theorem Blk.w32 {w : World} {g t : Nat} {l : List Nat} (h : Blk w g t (c32 l)) (i : Nat) (hi : i < l.length) : w.cell? ⟨g, i, none⟩ = some (.int .u32 (l.getD i 0 : Nat)) := (h.cell i).trans (c32_at l i hi)
theorem Blk.w8 {w : World} {g t : Nat} {l : List Nat} (h : Blk w g t (c8 l)) (i : Nat) (hi : i < l.length) : w.cell? ⟨g, i, none⟩ = some (.int .u8 (l.getD i 0 : Nat)) := (h.cell i).trans (c8_at l i hi)
theorem set_list (enc : Nat → Value) (l : List Nat) (i x : Nat) : ((l.map enc).toArray).setIfInBounds i (enc x) = ((l.set i x).map enc).toArray := by
  simp [List.map_set]
theorem c32_push (l : List Nat) (m i x : Nat) (hi : l.length = i) : (c32 (l ++ List.replicate (m + 1) 0)).setIfInBounds i (v32 x) = c32 (l ++ [x] ++ List.replicate m 0) := by
  subst hi
  unfold c32
  rw [set_list, List.replicate_succ, List.set_append_right _ _ (Nat.le_refl _), Nat.sub_self, List.set_cons_zero, List.append_assoc]
  rfl
theorem w16_at (p : List Nat) (k : Nat) (h : k < 16) : (w16 p).getD k 0 = word4 p k := by
  simp [w16, List.getD_eq_getElem?_getD, h]
theorem or_add (a b i : Nat) (h : b < 2 ^ i) : a * 2 ^ i ||| b = a * 2 ^ i + b := by
  rw [Nat.mul_comm, Nat.two_pow_add_eq_or_of_lt h]
theorem join4 (a b c d : Nat) (ha : a < 256) (hb : b < 256) (hc : c < 256) (hd : d < 256) :
    bits .or .u32 (bits .or .u32 (bits .or .u32 ((a : Int) * 16777216) ((b : Int) * 65536)) ((c : Int) * 256)) (d : Int) = (((((a * 256 + b) * 256 + c) * 256 + d : Nat)) : Int) := by
  rw [show (a : Int) * 16777216 = ((a * 2 ^ 24 : Nat) : Int) by simp, show (b : Int) * 65536 = ((b * 65536 : Nat) : Int) by simp, show (c : Int) * 256 = ((c * 256 : Nat) : Int) by simp,
    u32_or _ _ (by omega) (by omega), or_add a (b * 65536) 24 (by omega), show a * 2 ^ 24 + b * 65536 = (a * 256 + b) * 2 ^ 16 by omega,
    u32_or _ _ (by omega) (by omega), or_add _ (c * 256) 16 (by omega), show (a * 256 + b) * 2 ^ 16 + c * 256 = ((a * 256 + b) * 256 + c) * 2 ^ 8 by omega,
    u32_or _ _ (by omega) (by omega), or_add _ d 8 (by omega)]
theorem quiet_left {P : Program} {f : FuncId} {args : Array Value} {w : World} {n : Nat} {v : Value}
    (h : Calls P f args (w.drewN n) fun e w' => e = .returned v ∧ w.drewN n = w') : Calls P f args (w.drewN n) fun e w'' => e = .returned v ∧ ∃ m, w'' = w.drewN m :=
  h.mono fun _ _ ⟨he, hm⟩ => ⟨he, n, hm.symm⟩
theorem div_cast (x n : Nat) : (x : Int) / (n : Int) = ((x / n : Nat) : Int) := by simp
theorem sg0_int (x : Nat) (h : x < 4294967296) : bits .xor .u32 (bits .xor .u32 ((rotr x 7 : Nat) : Int) ((rotr x 18 : Nat) : Int)) ((x : Int) / 8) = ((sg0 x : Nat) : Int) := by
  rw [u32_xor _ _ (rotr_lt 7 h) (rotr_lt 18 h), show (x : Int) / 8 = ((x / 8 : Nat) : Int) by simp, u32_xor _ _ (Nat.xor_lt_two_pow (n := 32) (rotr_lt 7 h) (rotr_lt 18 h)) (by omega)]
  rfl
theorem sg1_int (x : Nat) (h : x < 4294967296) : bits .xor .u32 (bits .xor .u32 ((rotr x 17 : Nat) : Int) ((rotr x 19 : Nat) : Int)) ((x : Int) / 1024) = ((sg1 x : Nat) : Int) := by
  rw [u32_xor _ _ (rotr_lt 17 h) (rotr_lt 19 h), show (x : Int) / 1024 = ((x / 1024 : Nat) : Int) by simp, u32_xor _ _ (Nat.xor_lt_two_pow (n := 32) (rotr_lt 17 h) (rotr_lt 19 h)) (by omega)]
  rfl
theorem bg0_int (x : Nat) (h : x < 4294967296) : bits .xor .u32 (bits .xor .u32 ((rotr x 2 : Nat) : Int) ((rotr x 13 : Nat) : Int)) ((rotr x 22 : Nat) : Int) = ((bg0 x : Nat) : Int) := by
  rw [u32_xor _ _ (rotr_lt 2 h) (rotr_lt 13 h), u32_xor _ _ (Nat.xor_lt_two_pow (n := 32) (rotr_lt 2 h) (rotr_lt 13 h)) (rotr_lt 22 h)]
  rfl
theorem bg1_int (x : Nat) (h : x < 4294967296) : bits .xor .u32 (bits .xor .u32 ((rotr x 6 : Nat) : Int) ((rotr x 11 : Nat) : Int)) ((rotr x 25 : Nat) : Int) = ((bg1 x : Nat) : Int) := by
  rw [u32_xor _ _ (rotr_lt 6 h) (rotr_lt 11 h), u32_xor _ _ (Nat.xor_lt_two_pow (n := 32) (rotr_lt 6 h) (rotr_lt 11 h)) (rotr_lt 25 h)]
  rfl
theorem not_int (x : Nat) (h : x < 4294967296) : bits .xor .u32 (if IntKind.u32.signed = true then -1 else IntKind.u32.max) (x : Int) = ((4294967295 - x : Nat) : Int) := by
  show bits .xor .u32 ((4294967295 : Nat) : Int) (x : Int) = _
  rw [u32_xor _ _ (by decide) h]
  congr 1
  apply Nat.eq_of_testBit_eq
  intro i
  rw [Nat.testBit_xor, show 4294967295 = 2 ^ 32 - 1 from rfl, Nat.testBit_two_pow_sub_one, Nat.sub_sub, Nat.add_comm 1 x, Nat.testBit_two_pow_sub_succ h]
  by_cases hi : i < 32
  · simp [hi]
  · have : x.testBit i = false := Nat.testBit_lt_two_pow (Nat.lt_of_lt_of_le h (Nat.pow_le_pow_right (n := 2) (by decide) (show 32 ≤ i by omega)))
    simp [hi, this]
theorem cho_int (e f g : Nat) (he : e < 4294967296) (hf : f < 4294967296) (hg : g < 4294967296) :
    bits .xor .u32 (bits .and .u32 (e : Int) (f : Int)) (bits .and .u32 (bits .xor .u32 (if IntKind.u32.signed = true then -1 else IntKind.u32.max) (e : Int)) (g : Int)) = ((cho e f g : Nat) : Int) := by
  rw [not_int e he, u32_and _ _ he hf, u32_and _ _ (by omega) hg, u32_xor _ _ (Nat.and_lt_two_pow (n := 32) _ hf) (Nat.and_lt_two_pow (n := 32) _ hg)]
  rfl
theorem maj_int (a b c : Nat) (ha : a < 4294967296) (hb : b < 4294967296) (hc : c < 4294967296) :
    bits .xor .u32 (bits .xor .u32 (bits .and .u32 (a : Int) (b : Int)) (bits .and .u32 (a : Int) (c : Int))) (bits .and .u32 (b : Int) (c : Int)) = ((maj a b c : Nat) : Int) := by
  rw [u32_and _ _ ha hb, u32_and _ _ ha hc, u32_and _ _ hb hc, u32_xor _ _ (Nat.and_lt_two_pow (n := 32) _ hb) (Nat.and_lt_two_pow (n := 32) _ hc),
    u32_xor _ _ (Nat.xor_lt_two_pow (n := 32) (Nat.and_lt_two_pow (n := 32) _ hb) (Nat.and_lt_two_pow (n := 32) _ hc)) (Nat.and_lt_two_pow (n := 32) _ hc)]
  rfl
theorem roots_all : All 4294967296 roots := by intro x hx; revert x; decide
set_option maxRecDepth 100000 in
set_option maxHeartbeats 8000000 in
theorem turn_any (r p : List Nat) (b o c : Nat) (w : World) (hr : r.length = 8) (hra : All 4294967296 r) (hp : p.length = 64) (hpa : All 256 p)
    (hbs : Bs w b o p) (hb : b < w.heap.size) (ht : Tab1 w) (h1 : 1 < w.heap.size) :
    Calls Tryd.prog 47 #[.agg (c32 r), .slice (some ⟨b, o, none⟩) 64 c] w fun e w' => e = .returned (.agg (c32 (turn r p))) ∧ Below w.heap.size w w' := by
  go_enter Tryd.func47, Tryd.ntmps47
  go_wp2
  go_loopw [21] (fun i wr => ∃ k : Nat, k ≤ 16 ∧ i = .int .i64 k ∧ Below w.heap.size w wr ∧ Blk wr w.heap.size 73 (c32 r) ∧ Blk wr (w.heap.size + 1) 73 (c32 (List.replicate 8 0)) ∧ Blk wr (w.heap.size + 1 + 1) 91 (c32 ((w16 p).take k ++ List.replicate (64 - k) 0))) (fun i _ => 16 - (intOf i).toNat)
  case atStart =>
    refine ⟨0, by omega, rfl, (((Below.refl _ _).alloc (Nat.le_refl _) _).alloc (by simp) _).alloc (by simp; omega) _, ((Blk.new w 73 (c32 r)).alloc _).alloc _, (Blk.new_ (w.alloc _) 73 (c32 (List.replicate 8 0)) _ (by simp)).alloc _, Blk.new_ ((w.alloc _).alloc _) 91 _ _ (by simp)⟩

  case round =>
    obtain ⟨k, hk, rfl, hbel, B0, B1, B2⟩ := hrel
    by_cases hlt : k < 16
    · (
        have cc : ∀ j, j < 4 → ∃ x : Nat, x = p.getD (4 * k + j) 0 ∧ x < 256 ∧ wr.cell? ⟨b, o + (4 * k + j), none⟩ = some (.int .u8 (x : Int)) := fun j hj => ⟨_, rfl, hpa.getD (by decide) _, (hbel.cell (p := ⟨b, o + (4 * k + j), none⟩) hb).trans (hbs (4 * k + j) (by omega))⟩
        obtain ⟨x0, e0, l0, g0⟩ := cc 0 (by omega)
        obtain ⟨x1, e1, l1, g1⟩ := cc 1 (by omega)
        obtain ⟨x2, e2, l2, g2⟩ := cc 2 (by omega)
        obtain ⟨x3, e3, l3, g3⟩ := cc 3 (by omega)
        have E0 := Lib.hid e0; have E1 := Lib.hid e1; have E2 := Lib.hid e2; have E3 := Lib.hid e3
        clear e0 e1 e2 e3 cc
        go_wp2
        have L16 := w16_len p
        have g5 := B2.w32 k (by rw [List.length_append, List.length_take, List.length_replicate]; omega)
        have f5 := B2.frozen k
        rw [Nat.add_zero] at g0
        have hne : ∀ (W : World) (u : Value) (i j : Nat), (W.setCell ⟨w.heap.size + 1 + 1, i, none⟩ u).cell? ⟨b, j, none⟩ = W.cell? ⟨b, j, none⟩ := fun W u i j => World.cell?_setCell_other W _ _ u (by intro e; injection e; omega)
        have ak : (0 : Int) ≤ (k : Int) := by omega
        have bk : (k : Int) < 64 := by omega
        have n0 : (4 * (k : Int)).toNat = 4 * k := by omega
        have n1 : (4 * (k : Int) + 1).toNat = 4 * k + 1 := by omega
        have n2 : (4 * (k : Int) + 2).toNat = 4 * k + 2 := by omega
        have n3 : (4 * (k : Int) + 3).toNat = 4 * k + 3 := by omega
        have a0 : (0 : Int) ≤ 4 * (k : Int) := by omega
        have a1 : (0 : Int) ≤ 4 * (k : Int) + 1 := by omega
        have a2 : (0 : Int) ≤ 4 * (k : Int) + 2 := by omega
        have a3 : (0 : Int) ≤ 4 * (k : Int) + 3 := by omega
        have b0 : 4 * (k : Int) < 64 := by omega
        have b1 : 4 * (k : Int) + 1 < 64 := by omega
        have b2 : 4 * (k : Int) + 2 < 64 := by omega
        have b3 : 4 * (k : Int) + 3 < 64 := by omega
        have m0 : IntKind.i64.wrap (4 * (k : Int)) = 4 * (k : Int) := IntWalk.i64_in _ (by omega)
        have m1 : IntKind.i64.wrap (4 * (k : Int) + 1) = 4 * (k : Int) + 1 := IntWalk.i64_in _ (by omega)
        have m2 : IntKind.i64.wrap (4 * (k : Int) + 2) = 4 * (k : Int) + 2 := IntWalk.i64_in _ (by omega)
        have m3 : IntKind.i64.wrap (4 * (k : Int) + 3) = 4 * (k : Int) + 3 := IntWalk.i64_in _ (by omega)
        go_region_held3 (fun w' => w'.cell? ⟨b, o + 4 * k, none⟩ = some (.int .u8 (x0 : Int)) ∧ w'.cell? ⟨b, o + (4 * k + 1), none⟩ = some (.int .u8 (x1 : Int)) ∧ w'.cell? ⟨b, o + (4 * k + 2), none⟩ = some (.int .u8 (x2 : Int)) ∧ w'.cell? ⟨b, o + (4 * k + 3), none⟩ = some (.int .u8 (x3 : Int))) (go_keep) (fail)
        go_wp2
        go_roundw
        case rel =>
          rw [join4 x0 x1 x2 x3 l0 l1 l2 l3]
          refine ⟨k + 1, by omega, by go_num, (hbel.setCell (by show w.heap.size ≤ w.heap.size + 1 + 1; omega) _).drew, (B0.far (by show w.heap.size ≠ w.heap.size + 1 + 1; omega) _).drew, (B1.far (by show w.heap.size + 1 ≠ w.heap.size + 1 + 1; omega) _).drew, ?_⟩
          have h := (B2.set_ k (v32 ((w16 p).getD k 0))).drew
          rw [show 64 - k = (64 - (k + 1)) + 1 by omega, c32_push _ _ _ _ (by rw [List.length_take]; omega)] at h
          have e : (w16 p).getD k 0 = ((x0 * 256 + x1) * 256 + x2) * 256 + x3 := by
            rw [w16_at p k hlt, E0.out, E1.out, E2.out, E3.out, Nat.add_zero]
            rfl
          rw [List.take_succ_eq_append_getElem (by omega), show (w16 p)[k]'(by omega) = (w16 p).getD k 0 by rw [List.getD_eq_getElem?_getD, List.getElem?_eq_getElem (by omega)]; rfl]
          rw [e] at h ⊢
          exact h
        case measure => simp [intOf]; omega)
    · have L16 := w16_len p
      have hge : 16 ≤ k := by omega
      have B2' : Blk wr (w.heap.size + 1 + 1) 91 (c32 (sched p 0 ++ List.replicate (64 - 16) 0)) := by
        rw [List.take_of_length_le (by omega), show 64 - k = 64 - 16 by omega] at B2
        exact B2
      have C2 := Lib.hid B2'
      clear B2 B2' hlt
      obtain ⟨wo, rfl⟩ : ∃ wo : World, wo = wr := ⟨_, rfl⟩
      go_wp2
      go_loopw [7] (fun i wr => ∃ n : Nat, 16 ≤ n ∧ n ≤ 64 ∧ i = .int .i64 n ∧ Below w.heap.size w wr ∧ Blk wr w.heap.size 73 (c32 r) ∧ Blk wr (w.heap.size + 1) 73 (c32 (List.replicate 8 0)) ∧ Blk wr (w.heap.size + 1 + 1) 91 (c32 (sched p (n - 16) ++ List.replicate (64 - n) 0))) (fun i _ => 64 - (intOf i).toNat)
      case atStart => exact ⟨16, by omega, by omega, rfl, hbel, B0, B1, C2.out⟩
      case round =>
        clear hbel B0 B1 C2 hge hk L16
        obtain ⟨n, hn1, hn2, rfl, hbel, B0, B1, B2⟩ := hrel
        have hSl := sched_len p (n - 16)
        have hSa := sched_all hpa (n - 16)
        by_cases hlt : n < 64
        · (
            have cc : ∀ j, 1 ≤ j → j ≤ 16 → ∃ x : Nat, x = (sched p (n - 16)).getD (n - j) 0 ∧ x < 4294967296 ∧ wr.cell? ⟨w.heap.size + 1 + 1, n - j, none⟩ = some (.int .u32 (x : Int)) := fun j hj1 hj2 => ⟨_, rfl, hSa.getD (by decide) _, by
              have h := B2.w32 (n - j) (by rw [List.length_append, hSl, List.length_replicate]; omega)
              rw [List.getD_eq_getElem?_getD, List.getElem?_append_left (by omega), ← List.getD_eq_getElem?_getD] at h
              exact h⟩
            obtain ⟨x, e0, l0, g0⟩ := cc 15 (by omega) (by omega)
            obtain ⟨y, e1, l1, g1⟩ := cc 2 (by omega) (by omega)
            obtain ⟨x16, e2, l2, g2⟩ := cc 16 (by omega) (by omega)
            obtain ⟨x7, e3, l3, g3⟩ := cc 7 (by omega) (by omega)
            have E0 := Lib.hid e0; have E1 := Lib.hid e1; have E2 := Lib.hid e2; have E3 := Lib.hid e3; have HSl := Lib.hid hSl
            have g5 := B2.w32 n (by rw [List.length_append, hSl, List.length_replicate]; omega)
            have f5 := B2.frozen n
            clear e0 e1 e2 e3 cc hSl hSa
            have hn0 : ∀ (W : World) (u : Value), (W.setCell ⟨w.heap.size + 1 + 1, n, none⟩ u).cell? ⟨w.heap.size + 1 + 1, n - 16, none⟩ = W.cell? ⟨w.heap.size + 1 + 1, n - 16, none⟩ := fun W u => World.cell?_setCell_other W _ _ u (by intro e; injection e; omega)
            have hn7 : ∀ (W : World) (u : Value), (W.setCell ⟨w.heap.size + 1 + 1, n, none⟩ u).cell? ⟨w.heap.size + 1 + 1, n - 7, none⟩ = W.cell? ⟨w.heap.size + 1 + 1, n - 7, none⟩ := fun W u => World.cell?_setCell_other W _ _ u (by intro e; injection e; omega)
            have t15 : ((n : Int) - 15).toNat = n - 15 := by omega
            have t2 : ((n : Int) - 2).toNat = n - 2 := by omega
            have t16 : ((n : Int) - 16).toNat = n - 16 := by omega
            have t7 : ((n : Int) - 7).toNat = n - 7 := by omega
            have a15 : (0 : Int) ≤ (n : Int) - 15 := by omega
            have a2 : (0 : Int) ≤ (n : Int) - 2 := by omega
            have a16 : (0 : Int) ≤ (n : Int) - 16 := by omega
            have a7 : (0 : Int) ≤ (n : Int) - 7 := by omega
            have an : (0 : Int) ≤ (n : Int) := by omega
            have b15 : (n : Int) - 15 < 64 := by omega
            have b2 : (n : Int) - 2 < 64 := by omega
            have b16 : (n : Int) - 16 < 64 := by omega
            have b7 : (n : Int) - 7 < 64 := by omega
            have bn : (n : Int) < 64 := by omega
            have q16 : (16 : Int) ≤ (n : Int) := by omega
            have q7 : (7 : Int) ≤ (n : Int) := by omega
            have m15 : IntKind.i64.wrap ((n : Int) - 15) = (n : Int) - 15 := IntWalk.i64_in _ (by omega)
            have m2 : IntKind.i64.wrap ((n : Int) - 2) = (n : Int) - 2 := IntWalk.i64_in _ (by omega)
            have m16 : IntKind.i64.wrap ((n : Int) - 16) = (n : Int) - 16 := IntWalk.i64_in _ (by omega)
            have m7 : IntKind.i64.wrap ((n : Int) - 7) = (n : Int) - 7 := IntWalk.i64_in _ (by omega)
            go_wp2
            skip
            go_quiet (fail)
            go_wp2
            skip
            go_region_held3 (fun w' => w'.cell? ⟨w.heap.size + 1 + 1, n - 16, none⟩ = some (.int .u32 (x16 : Int)) ∧ w'.cell? ⟨w.heap.size + 1 + 1, n - 7, none⟩ = some (.int .u32 (x7 : Int))) (go_keep)
              (first
                | (go_at_call 62; (with_reducible refine (round_7 x _ l0).mono ?_); rintro e w' ⟨rfl, rfl⟩)
                | (go_at_call 62; (with_reducible refine (round_18 x _ l0).mono ?_); rintro e w' ⟨rfl, rfl⟩)
                | (go_at_call 62; (with_reducible refine (round_17 y _ l1).mono ?_); rintro e w' ⟨rfl, rfl⟩)
                | (go_at_call 62; (with_reducible refine (round_19 y _ l1).mono ?_); rintro e w' ⟨rfl, rfl⟩))
            skip
            go_wp2
            go_roundw
            case rel =>
              rw [sg0_int x l0, sg1_int y l1]
              have e : ((((x16 : Int) + ((sg0 x : Nat) : Int)) % 4294967296 + (x7 : Int)) % 4294967296 + ((sg1 y : Nat) : Int)) % 4294967296 = ((nextW (sched p (n - 16)) : Nat) : Int) := by
                unfold nextW
                rw [HSl.out, show 16 + (n - 16) = n by omega, ← E0.out, ← E1.out, ← E2.out, ← E3.out]
                omega
              rw [e]
              refine ⟨n + 1, by omega, by omega, by go_num, (below_drewN hbel _).setCell (by show w.heap.size ≤ w.heap.size + 1 + 1; omega) _, (B0.drewN _).far (by show w.heap.size ≠ w.heap.size + 1 + 1; omega) _, (B1.drewN _).far (by show w.heap.size + 1 ≠ w.heap.size + 1 + 1; omega) _, ?_⟩
              have h := (B2.drewN (nq + 1)).set_ n (v32 (nextW (sched p (n - 16))))
              rw [show 64 - n = (64 - (n + 1)) + 1 by omega, c32_push _ _ _ _ (by rw [HSl.out]; omega)] at h
              rw [show n + 1 - 16 = (n - 16) + 1 by omega]
              exact h
            case measure => simp [intOf]; omega)
        · have hge : 64 ≤ n := by omega
          have C2 : Hid (Blk wr (w.heap.size + 1 + 1) 91 (c32 (sched p 48))) := by
            have h := B2
            rw [show n - 16 = 48 by omega, show 64 - n = 0 by omega, List.replicate_zero, List.append_nil] at h
            exact h
          clear B2 hlt hSl hSa
          have nz : ∀ i, i < 8 → ∃ x : Nat, x = r.getD i 0 ∧ x < 4294967296 ∧ wr.cell? ⟨w.heap.size, i, none⟩ = some (.int .u32 (x : Int)) := fun i hi => ⟨_, rfl, hra.getD (by decide) i, B0.w32 i (by omega)⟩
          obtain ⟨y0, ey0, ly0, z0⟩ := nz 0 (by omega)
          obtain ⟨y1, ey1, ly1, z1⟩ := nz 1 (by omega)
          obtain ⟨y2, ey2, ly2, z2⟩ := nz 2 (by omega)
          obtain ⟨y3, ey3, ly3, z3⟩ := nz 3 (by omega)
          obtain ⟨y4, ey4, ly4, z4⟩ := nz 4 (by omega)
          obtain ⟨y5, ey5, ly5, z5⟩ := nz 5 (by omega)
          obtain ⟨y6, ey6, ly6, z6⟩ := nz 6 (by omega)
          obtain ⟨y7, ey7, ly7, z7⟩ := nz 7 (by omega)
          clear nz
          have EY0 := Lib.hid ey0; clear ey0
          have EY1 := Lib.hid ey1; clear ey1
          have EY2 := Lib.hid ey2; clear ey2
          have EY3 := Lib.hid ey3; clear ey3
          have EY4 := Lib.hid ey4; clear ey4
          have EY5 := Lib.hid ey5; clear ey5
          have EY6 := Lib.hid ey6; clear ey6
          have EY7 := Lib.hid ey7; clear ey7
          obtain ⟨wo2, rfl⟩ : ∃ wo2 : World, wo2 = wr := ⟨_, rfl⟩
          go_wp2
          go_quiet (fail)
          go_wp2
          clear z0 z1 z2 z3 z4 z5 z6 z7
          go_loopw [117, 10, 11, 12, 13, 14, 15, 16, 17] (fun t a b c d e f g h wr => ∃ n : Nat, n ≤ 64 ∧ t = .int .i64 n ∧ (∃ R : List Nat, R = regs r (sched p 48) n ∧ a = .int .u32 (R.getD 0 0 : Nat) ∧ b = .int .u32 (R.getD 1 0 : Nat) ∧ c = .int .u32 (R.getD 2 0 : Nat) ∧ d = .int .u32 (R.getD 3 0 : Nat) ∧ e = .int .u32 (R.getD 4 0 : Nat) ∧ f = .int .u32 (R.getD 5 0 : Nat) ∧ g = .int .u32 (R.getD 6 0 : Nat) ∧ h = .int .u32 (R.getD 7 0 : Nat)) ∧ Below w.heap.size w wr ∧ Blk wr w.heap.size 73 (c32 r) ∧ Blk wr (w.heap.size + 1) 73 (c32 (List.replicate 8 0)) ∧ Blk wr (w.heap.size + 1 + 1) 91 (c32 (sched p 48))) (fun t _ _ _ _ _ _ _ _ _ => 64 - (intOf t).toNat)
          case atStart => exact ⟨0, by omega, rfl, ⟨r, rfl, by rw [EY0.out], by rw [EY1.out], by rw [EY2.out], by rw [EY3.out], by rw [EY4.out], by rw [EY5.out], by rw [EY6.out], by rw [EY7.out]⟩, below_drewN hbel _, B0, B1, C2.out⟩
          case round =>
            clear hbel B0 B1 C2 hge hn1 hn2
            clear EY0 EY1 EY2 EY3 EY4 EY5 EY6 EY7 ly0 ly1 ly2 ly3 ly4 ly5 ly6 ly7
            obtain ⟨m, hm, rfl, ⟨R, hR, rfl, rfl, rfl, rfl, rfl, rfl, rfl, rfl⟩, hbel, B0, B1, B2⟩ := hrel
            have hRa : All 4294967296 R := hR ▸ regs_all hra m
            have hRl : R.length = 8 := hR ▸ regs_len hr m
            have nm : ∀ i, ∃ x : Nat, x = R.getD i 0 ∧ x < 4294967296 := fun i => ⟨_, rfl, hRa.getD (by decide) i⟩
            obtain ⟨A, eA, lA⟩ := nm 0
            obtain ⟨B, eB, lB⟩ := nm 1
            obtain ⟨C, eC, lC⟩ := nm 2
            obtain ⟨D, eD, lD⟩ := nm 3
            obtain ⟨E, eE, lE⟩ := nm 4
            obtain ⟨F, eF, lF⟩ := nm 5
            obtain ⟨G, eG, lG⟩ := nm 6
            obtain ⟨K, eK, lK⟩ := nm 7
            rw [← eA, ← eB, ← eC, ← eD, ← eE, ← eF, ← eG, ← eK]
            have HR := Lib.hid hR
            have EA := Lib.hid eA; have EB := Lib.hid eB; have EC := Lib.hid eC; have ED := Lib.hid eD; have EE := Lib.hid eE; have EF := Lib.hid eF; have EG := Lib.hid eG; have EK := Lib.hid eK
            clear nm eA eB eC eD eE eF eG eK hR hRl hRa
            by_cases hlt : m < 64
            · (
              obtain ⟨kt, ekt⟩ : ∃ x : Nat, x = roots.getD m 0 := ⟨_, rfl⟩
              obtain ⟨ww, eww⟩ : ∃ x : Nat, x = (sched p 48).getD m 0 := ⟨_, rfl⟩
              have lk : kt < 4294967296 := ekt ▸ roots_all.getD (by decide) m
              have lw : ww < 4294967296 := eww ▸ (sched_all hpa 48).getD (by decide) m
              have gk : wr.cell? ⟨1, m, none⟩ = some (.int .u32 (kt : Int)) := by rw [hbel.cell (p := ⟨1, m, none⟩) h1, ht m hlt, ekt]; rfl
              have gw : wr.cell? ⟨w.heap.size + 1 + 1, m, none⟩ = some (.int .u32 (ww : Int)) := by rw [B2.w32 m (by rw [sched_len]; omega), eww]
              have EK' := Lib.hid ekt; have EW := Lib.hid eww
              clear ekt eww
              have am : (0 : Int) ≤ (m : Int) := by omega
              have bm : (m : Int) < 64 := by omega
              go_wp2
              go_quiet (first
                | (go_at_call 62; with_reducible exact quiet_left (round_6 E _ lE))
                | (go_at_call 62; with_reducible exact quiet_left (round_11 E _ lE))
                | (go_at_call 62; with_reducible exact quiet_left (round_25 E _ lE)))
              go_wp2_with (first
                | (go_at_call 62; (with_reducible refine (round_2 A _ lA).mono ?_); rintro e w' ⟨rfl, rfl⟩)
                | (go_at_call 62; (with_reducible refine (round_13 A _ lA).mono ?_); rintro e w' ⟨rfl, rfl⟩)
                | (go_at_call 62; (with_reducible refine (round_22 A _ lA).mono ?_); rintro e w' ⟨rfl, rfl⟩))
              go_roundw
              case rel =>
                rw [bg1_int E lE, cho_int E F G lE lF lG, bg0_int A lA, maj_int A B C lA lB lC]
                refine ⟨m + 1, by omega, by go_num, ⟨stepR R (roots.getD m 0) ((sched p 48).getD m 0), by rw [HR.out]; rfl, ?_, ?_, ?_, ?_, ?_, ?_, ?_, ?_⟩, below_drewN hbel _, B0, B1, B2⟩
                · show _ = Value.int .u32 (((stepU R (roots.getD m 0) ((sched p 48).getD m 0) + stepV R) % 4294967296 : Nat) : Int)
                  unfold stepU stepV
                  rw [← EA.out, ← EB.out, ← EC.out, ← EE.out, ← EF.out, ← EG.out, ← EK.out, ← EK'.out, ← EW.out]
                  congr 1; try omega
                · rw [EA.out]; rfl
                · rw [EB.out]; rfl
                · rw [EC.out]; rfl
                · show _ = Value.int .u32 (((R.getD 3 0 + stepU R (roots.getD m 0) ((sched p 48).getD m 0)) % 4294967296 : Nat) : Int)
                  unfold stepU
                  rw [← ED.out, ← EE.out, ← EF.out, ← EG.out, ← EK.out, ← EK'.out, ← EW.out]
                  congr 1; try omega
                · rw [EE.out]; rfl
                · rw [EF.out]; rfl
                · rw [EG.out]; rfl
              case measure => simp [intOf]; omega)
            · have hm64 : m = 64 := by omega
              have nz : ∀ i, i < 8 → ∃ x : Nat, x = r.getD i 0 ∧ x < 4294967296 ∧ wr.cell? ⟨w.heap.size, i, none⟩ = some (.int .u32 (x : Int)) := fun i hi => ⟨_, rfl, hra.getD (by decide) i, B0.w32 i (by omega)⟩
              obtain ⟨y0, ey0, ly0, z0⟩ := nz 0 (by omega)
              obtain ⟨y1, ey1, ly1, z1⟩ := nz 1 (by omega)
              obtain ⟨y2, ey2, ly2, z2⟩ := nz 2 (by omega)
              obtain ⟨y3, ey3, ly3, z3⟩ := nz 3 (by omega)
              obtain ⟨y4, ey4, ly4, z4⟩ := nz 4 (by omega)
              obtain ⟨y5, ey5, ly5, z5⟩ := nz 5 (by omega)
              obtain ⟨y6, ey6, ly6, z6⟩ := nz 6 (by omega)
              obtain ⟨y7, ey7, ly7, z7⟩ := nz 7 (by omega)
              clear nz
              have EY0 := Lib.hid ey0; clear ey0
              have EY1 := Lib.hid ey1; clear ey1
              have EY2 := Lib.hid ey2; clear ey2
              have EY3 := Lib.hid ey3; clear ey3
              have EY4 := Lib.hid ey4; clear ey4
              have EY5 := Lib.hid ey5; clear ey5
              have EY6 := Lib.hid ey6; clear ey6
              have EY7 := Lib.hid ey7; clear ey7
              have hge : 64 ≤ m := by omega
              clear hlt
              have HM := Lib.hid hm64; clear hm64
              have o0 : ∀ j, j < 8 → wr.cell? ⟨w.heap.size + 1, j, none⟩ = some (.int .u32 0) := fun j hj => by
                rw [B1.w32 j (by rw [List.length_replicate]; omega), List.getD_eq_getElem?_getD, List.getElem?_replicate, if_pos hj]
                rfl
              have q0 := o0 0 (by omega); have q1 := o0 1 (by omega); have q2 := o0 2 (by omega); have q3 := o0 3 (by omega)
              have q4 := o0 4 (by omega); have q5 := o0 5 (by omega); have q6 := o0 6 (by omega); have q7 := o0 7 (by omega)
              have f0 := B1.frozen 0; have f1 := B1.frozen 1; have f2 := B1.frozen 2; have f3 := B1.frozen 3
              have f4 := B1.frozen 4; have f5 := B1.frozen 5; have f6 := B1.frozen 6; have f7 := B1.frozen 7
              clear o0
              go_wp2
              have hB := ((((((((B1.set_ 0 (v32 ((y0 + A) % 4294967296))).set_ 1 (v32 ((y1 + B) % 4294967296))).set_ 2 (v32 ((y2 + C) % 4294967296))).set_ 3 (v32 ((y3 + D) % 4294967296))).set_ 4 (v32 ((y4 + E) % 4294967296))).set_ 5 (v32 ((y5 + F) % 4294967296))).set_ 6 (v32 ((y6 + G) % 4294967296))).set_ 7 (v32 ((y7 + K) % 4294967296)))
              have hbe : w.heap.size ≤ w.heap.size + 1 := by omega
              have hBel := (((((((hbel.setCell (p := ⟨w.heap.size + 1, 0, none⟩) hbe (v32 ((y0 + A) % 4294967296))).setCell (p := ⟨w.heap.size + 1, 1, none⟩) hbe (v32 ((y1 + B) % 4294967296))).setCell (p := ⟨w.heap.size + 1, 2, none⟩) hbe (v32 ((y2 + C) % 4294967296))).setCell (p := ⟨w.heap.size + 1, 3, none⟩) hbe (v32 ((y3 + D) % 4294967296))).setCell (p := ⟨w.heap.size + 1, 4, none⟩) hbe (v32 ((y4 + E) % 4294967296))).setCell (p := ⟨w.heap.size + 1, 5, none⟩) hbe (v32 ((y5 + F) % 4294967296))).setCell (p := ⟨w.heap.size + 1, 6, none⟩) hbe (v32 ((y6 + G) % 4294967296))).setCell (p := ⟨w.heap.size + 1, 7, none⟩) hbe (v32 ((y7 + K) % 4294967296))
              have hv : ∀ a b : Nat, (((a : Int) + (b : Int)) % 4294967296) = (((a + b) % 4294967296 : Nat) : Int) := fun a b => by omega
              have e : (((((((((c32 (List.replicate 8 0)).setIfInBounds 0 (v32 ((y0 + A) % 4294967296))).setIfInBounds 1 (v32 ((y1 + B) % 4294967296))).setIfInBounds 2 (v32 ((y2 + C) % 4294967296))).setIfInBounds 3 (v32 ((y3 + D) % 4294967296))).setIfInBounds 4 (v32 ((y4 + E) % 4294967296))).setIfInBounds 5 (v32 ((y5 + F) % 4294967296))).setIfInBounds 6 (v32 ((y6 + G) % 4294967296))).setIfInBounds 7 (v32 ((y7 + K) % 4294967296))) = c32 (turn r p) := by
                rw [EY0.out, EY1.out, EY2.out, EY3.out, EY4.out, EY5.out, EY6.out, EY7.out, EA.out, EB.out, EC.out, ED.out, EE.out, EF.out, EG.out, EK.out, HR.out, HM.out]
                rfl
              rw [e] at hB
              simp only [hv]
              exact bodyPost_ret (results_cell_row rfl _ _ (w.heap.size + 1) 73 (c32 (turn r p)) (0, 0) _ rfl hB Tryd.underlying73 rfl (by kernel_rfl)) rfl ⟨rfl, hBel⟩
end Go.Proofs.YtfedlgcpgfofjaaDoor.Sha
namespace Go.Proofs.YtfedlgcpgfofjaaDoor.Sha
open Go.RowKit
set_option linter.unusedVariables false
theorem rround_any (x n : Nat) (w : World) (hx : x < 4294967296) (h0 : 1 ≤ n) (hn : n ≤ 31) :
    Calls Tryd.prog 66 #[.int .u32 x, .int .i64 n] w fun e w' => e = .returned (.int .u32 (rotr x n)) ∧ w = w' := by
  have h1 : (0 : Int) ≤ n := by omega
  have h2 : (n : Int) ≤ 31 := by omega
  have h3 : (0 : Int) ≤ x := by omega
  have h4 : (x : Int) < 4294967296 := by omega
  go_enter Tryd.func66, Tryd.ntmps66
  go_wp2
  go_ret
  refine ⟨?_, rfl⟩
  show Ending.returned (Value.int .u32 (bits .or .u32 ((x : Int) / 2 ^ n) ((x : Int) * 2 ^ (32 - n) % 4294967296))) = _
  rw [show ((x : Int) / 2 ^ n) = ((x / 2 ^ n : Nat) : Int) by simp, show ((x : Int) * 2 ^ (32 - n) % 4294967296) = ((x * 2 ^ (32 - n) % 4294967296 : Nat) : Int) by simp,
    u32_or _ _ (Nat.lt_of_le_of_lt (Nat.div_le_self _ _) hx) (Nat.mod_lt _ (by decide))]
  rfl
theorem rround_2 (x : Nat) (w : World) (hx : x < 4294967296) : Calls Tryd.prog 66 #[.int .u32 x, .int .i64 2] w fun e w' => e = .returned (.int .u32 (rotr x 2)) ∧ w = w' := rround_any x 2 w hx (by decide) (by decide)
theorem rround_6 (x : Nat) (w : World) (hx : x < 4294967296) : Calls Tryd.prog 66 #[.int .u32 x, .int .i64 6] w fun e w' => e = .returned (.int .u32 (rotr x 6)) ∧ w = w' := rround_any x 6 w hx (by decide) (by decide)
theorem rround_7 (x : Nat) (w : World) (hx : x < 4294967296) : Calls Tryd.prog 66 #[.int .u32 x, .int .i64 7] w fun e w' => e = .returned (.int .u32 (rotr x 7)) ∧ w = w' := rround_any x 7 w hx (by decide) (by decide)
theorem rround_11 (x : Nat) (w : World) (hx : x < 4294967296) : Calls Tryd.prog 66 #[.int .u32 x, .int .i64 11] w fun e w' => e = .returned (.int .u32 (rotr x 11)) ∧ w = w' := rround_any x 11 w hx (by decide) (by decide)
theorem rround_13 (x : Nat) (w : World) (hx : x < 4294967296) : Calls Tryd.prog 66 #[.int .u32 x, .int .i64 13] w fun e w' => e = .returned (.int .u32 (rotr x 13)) ∧ w = w' := rround_any x 13 w hx (by decide) (by decide)
theorem rround_17 (x : Nat) (w : World) (hx : x < 4294967296) : Calls Tryd.prog 66 #[.int .u32 x, .int .i64 17] w fun e w' => e = .returned (.int .u32 (rotr x 17)) ∧ w = w' := rround_any x 17 w hx (by decide) (by decide)
theorem rround_18 (x : Nat) (w : World) (hx : x < 4294967296) : Calls Tryd.prog 66 #[.int .u32 x, .int .i64 18] w fun e w' => e = .returned (.int .u32 (rotr x 18)) ∧ w = w' := rround_any x 18 w hx (by decide) (by decide)
theorem rround_19 (x : Nat) (w : World) (hx : x < 4294967296) : Calls Tryd.prog 66 #[.int .u32 x, .int .i64 19] w fun e w' => e = .returned (.int .u32 (rotr x 19)) ∧ w = w' := rround_any x 19 w hx (by decide) (by decide)
theorem rround_22 (x : Nat) (w : World) (hx : x < 4294967296) : Calls Tryd.prog 66 #[.int .u32 x, .int .i64 22] w fun e w' => e = .returned (.int .u32 (rotr x 22)) ∧ w = w' := rround_any x 22 w hx (by decide) (by decide)
theorem rround_25 (x : Nat) (w : World) (hx : x < 4294967296) : Calls Tryd.prog 66 #[.int .u32 x, .int .i64 25] w fun e w' => e = .returned (.int .u32 (rotr x 25)) ∧ w = w' := rround_any x 25 w hx (by decide) (by decide)
def Tab2 (w : World) : Prop := ∀ j, j < 64 → w.cell? ⟨2, j, none⟩ = some (v32 (roots.getD j 0))
/-- The first j bytes of word t. -/
def acc (p : List Nat) (t : Nat) : Nat → Nat
  | 0 => 0
  | j + 1 => (acc p t j * 256 + p.getD (4 * t + j) 0) % 4294967296
theorem acc_lt (p : List Nat) (t : Nat) : ∀ j, acc p t j < 4294967296
  | 0 => by unfold acc; decide
  | _ + 1 => Nat.mod_lt _ (by decide)
theorem acc_four {p : List Nat} (hp : All 256 p) (t : Nat) : acc p t 4 = word4 p t := by
  simp only [acc, word4, Nat.add_zero]
  have := hp.getD (by decide) (4 * t); have := hp.getD (by decide) (4 * t + 1); have := hp.getD (by decide) (4 * t + 2); have := hp.getD (by decide) (4 * t + 3)
  omega
theorem c32_eight (r : List Nat) (h : r.length = 8) : c32 r = #[.int .u32 (r.getD 0 0 : Nat), .int .u32 (r.getD 1 0 : Nat), .int .u32 (r.getD 2 0 : Nat), .int .u32 (r.getD 3 0 : Nat), .int .u32 (r.getD 4 0 : Nat), .int .u32 (r.getD 5 0 : Nat), .int .u32 (r.getD 6 0 : Nat), .int .u32 (r.getD 7 0 : Nat)] := by
  match r, h with
  | [_, _, _, _, _, _, _, _], _ => rfl
theorem quiet_add_left {P : Program} {f : FuncId} {args : Array Value} {w : World} {a n : Nat} {v : Value}
    (h : Calls P f args (w.drewN (a + n)) fun e w' => e = .returned v ∧ w.drewN (a + n) = w') : Calls P f args (w.drewN (a + n)) fun e w'' => e = .returned v ∧ ∃ m, w'' = w.drewN (a + m) :=
  h.mono fun _ _ ⟨he, hm⟩ => ⟨he, n, hm.symm⟩
theorem c32_set (l m : List Nat) (i x y : Nat) (hi : l.length = i) : (c32 (l ++ [x] ++ m)).setIfInBounds i (v32 y) = c32 (l ++ [y] ++ m) := by
  subst hi
  unfold c32
  rw [set_list, List.append_assoc, List.append_assoc, List.set_append_right _ _ (Nat.le_refl _), Nat.sub_self]
  rfl
theorem set_eight (cs : Array Value) (hs : cs.size = 8) (v0 v1 v2 v3 v4 v5 v6 v7 : Value) :
    (((((((cs.setIfInBounds 0 v0).setIfInBounds 1 v1).setIfInBounds 2 v2).setIfInBounds 3 v3).setIfInBounds 4 v4).setIfInBounds 5 v5).setIfInBounds 6 v6).setIfInBounds 7 v7 = #[v0, v1, v2, v3, v4, v5, v6, v7] := by
  obtain ⟨l⟩ := cs
  have hs' : l.length = 8 := hs
  clear hs
  match l, hs' with
  | [_, _, _, _, _, _, _, _], _ => simp only [List.setIfInBounds_toArray, List.set_cons_zero, List.set_cons_succ]
theorem Blk.eight {w : World} {g t : Nat} {cs : Array Value} (h : Blk w g t cs) (hs : cs.size = 8) (v0 v1 v2 v3 v4 v5 v6 v7 : Value) : Blk ((((((((w.setCell ⟨g, 0, none⟩ v0).setCell ⟨g, 1, none⟩ v1).setCell ⟨g, 2, none⟩ v2).setCell ⟨g, 3, none⟩ v3).setCell ⟨g, 4, none⟩ v4).setCell ⟨g, 5, none⟩ v5).setCell ⟨g, 6, none⟩ v6).setCell ⟨g, 7, none⟩ v7) g t #[v0, v1, v2, v3, v4, v5, v6, v7] := by
  have h8 := ((((((((h.set_ 0 v0).set_ 1 v1).set_ 2 v2).set_ 3 v3).set_ 4 v4).set_ 5 v5).set_ 6 v6).set_ 7 v7)
  rw [set_eight cs hs] at h8
  exact h8
theorem Blk.far_eight {w : World} {k g t : Nat} {cs : Array Value} (h : Blk w k t cs) (hne : k ≠ g) (v0 v1 v2 v3 v4 v5 v6 v7 : Value) : Blk ((((((((w.setCell ⟨g, 0, none⟩ v0).setCell ⟨g, 1, none⟩ v1).setCell ⟨g, 2, none⟩ v2).setCell ⟨g, 3, none⟩ v3).setCell ⟨g, 4, none⟩ v4).setCell ⟨g, 5, none⟩ v5).setCell ⟨g, 6, none⟩ v6).setCell ⟨g, 7, none⟩ v7) k t cs :=
  ((((((((h.far (p := ⟨g, 0, none⟩) hne v0).far (p := ⟨g, 1, none⟩) hne v1).far (p := ⟨g, 2, none⟩) hne v2).far (p := ⟨g, 3, none⟩) hne v3).far (p := ⟨g, 4, none⟩) hne v4).far (p := ⟨g, 5, none⟩) hne v5).far (p := ⟨g, 6, none⟩) hne v6).far (p := ⟨g, 7, none⟩) hne v7)
theorem below_eight {B : Nat} {a w : World} {g : Nat} (h : Below B a w) (hg : B ≤ g) (v0 v1 v2 v3 v4 v5 v6 v7 : Value) : Below B a ((((((((w.setCell ⟨g, 0, none⟩ v0).setCell ⟨g, 1, none⟩ v1).setCell ⟨g, 2, none⟩ v2).setCell ⟨g, 3, none⟩ v3).setCell ⟨g, 4, none⟩ v4).setCell ⟨g, 5, none⟩ v5).setCell ⟨g, 6, none⟩ v6).setCell ⟨g, 7, none⟩ v7) :=
  ((((((((h.setCell (p := ⟨g, 0, none⟩) hg v0).setCell (p := ⟨g, 1, none⟩) hg v1).setCell (p := ⟨g, 2, none⟩) hg v2).setCell (p := ⟨g, 3, none⟩) hg v3).setCell (p := ⟨g, 4, none⟩) hg v4).setCell (p := ⟨g, 5, none⟩) hg v5).setCell (p := ⟨g, 6, none⟩) hg v6).setCell (p := ⟨g, 7, none⟩) hg v7)
theorem cho_int' (e f g : Nat) (he : e < 4294967296) (hf : f < 4294967296) (hg : g < 4294967296) :
    bits .xor .u32 (bits .and .u32 (e : Int) (f : Int)) (bits .and .u32 (bits .xor .u32 IntKind.u32.max (e : Int)) (g : Int)) = ((cho e f g : Nat) : Int) := cho_int e f g he hf hg
theorem add_take (l R : List Nat) (k : Nat) (hk : k < l.length) (hR : R.length = l.length) : (c32 (l.take k ++ R.drop k)).setIfInBounds k (v32 (l.getD k 0)) = c32 (l.take (k + 1) ++ R.drop (k + 1)) := by
  have h1 : (l.take k).length = k := by rw [List.length_take]; omega
  have h2 : R.drop k = R[k] :: R.drop (k + 1) := (List.drop_eq_getElem_cons (by omega))
  rw [h2]
  have h3 := c32_set (l.take k) (R.drop (k + 1)) k R[k] (l.getD k 0) h1
  rw [List.append_assoc] at h3
  rw [show R[k] :: R.drop (k + 1) = [R[k]] ++ R.drop (k + 1) from rfl, h3, List.take_succ_eq_append_getElem hk, List.getD_eq_getElem?_getD, List.getElem?_eq_getElem hk]
  rfl
set_option maxRecDepth 100000 in
set_option maxHeartbeats 8000000 in
theorem rturn_any (r q : List Nat) (b o c at_ : Nat) (w : World) (hr : r.length = 8) (hra : All 4294967296 r) (hq : at_ + 64 ≤ q.length) (hq2 : q.length ≤ 140737488355328) (hqa : All 256 q)
    (hbs : Bs w b o q) (hb : b < w.heap.size) (ht : Tab2 w) (h2 : 2 < w.heap.size) :
    Calls Tryd.prog 65 #[.agg (c32 r), .slice (some ⟨b, o, none⟩) q.length c, .int .i64 at_] w fun e w' => e = .returned (.agg (c32 (turn r ((q.drop at_).take 64)))) ∧ Below w.heap.size w w' := by
  obtain ⟨p, hp⟩ : ∃ p, p = (q.drop at_).take 64 := ⟨_, rfl⟩
  have hpa : All 256 p := hp ▸ (hqa.drop _).take _
  have hpq : ∀ i, i < 64 → p.getD i 0 = q.getD (at_ + i) 0 := fun i hi => by rw [hp, getD_take _ _ _ hi, List.getD_eq_getElem?_getD, List.getElem?_drop, ← List.getD_eq_getElem?_getD]
  have hbp : ∀ j, j < 64 → w.cell? ⟨b, o + (at_ + j), none⟩ = some (.int .u8 (p.getD j 0 : Nat)) := fun j hj => by rw [hbs (at_ + j) (by omega), hpq j hj]; rfl
  rw [← hp]
  have HP := Lib.hid hp
  have HR := Lib.hid hr
  obtain ⟨T, hT⟩ : ∃ T, T = S64 p := ⟨_, rfl⟩
  have S64l : Hid (T.length = 64) := by rw [hT]; exact S64_len p
  have S64a : All 4294967296 T := by rw [hT]; exact S64_all hpa
  have HT0 := Lib.hid hT
  clear hT
  have HBP := Lib.hid hbp
  have HBS := Lib.hid hbs
  clear hbp hbs
  clear hp hpq hr
  go_enter Tryd.func65, Tryd.ntmps65
  go_wp2
  go_loopw [8] (fun i wr => ∃ t : Nat, t ≤ 64 ∧ i = .int .i64 t ∧ Below w.heap.size w wr ∧ Blk wr w.heap.size 56 (c32 r) ∧ Blk wr (w.heap.size + 1) 56 (c32 (List.replicate 8 0)) ∧ Blk wr (w.heap.size + 1 + 1) 91 (c32 (T.take t ++ List.replicate (64 - t) 0)) ∧ wr.heap.size = w.heap.size + 1 + 1 + 1) (fun i _ => 64 - (intOf i).toNat)
  case atStart =>
    refine ⟨0, by omega, rfl, (((Below.refl _ _).alloc (Nat.le_refl _) _).alloc (by simp) _).alloc (by simp; omega) _, ((Blk.new w 56 (c32 r)).alloc _).alloc _, (Blk.new_ (w.alloc _) 56 (c32 (List.replicate 8 0)) _ (by simp)).alloc _, Blk.new_ ((w.alloc _).alloc _) 91 _ _ (by simp), by simp⟩
  case round =>
    obtain ⟨t, ht64, rfl, hbel, B0, B1, B2, hsz⟩ := hrel
    have HS := Lib.hid hsz; clear hsz
    by_cases hlt : t < 64
    · by_cases hlo : t < 16
      · (
        have d1 : decide ((t : Int) < 64) = true := decide_eq_true (by omega)
        have d2 : decide ((t : Int) < 16) = true := decide_eq_true (by omega)
        go_wp2
        have B2' : Blk wr (w.heap.size + 1 + 1) 91 (c32 (T.take t ++ [acc p t 0] ++ List.replicate (63 - t) 0)) := by
          rw [show 64 - t = (63 - t) + 1 by omega, List.replicate_succ] at B2
          rw [List.append_assoc]
          exact B2
        have C2 := Lib.hid B2'
        clear B2 B2'
        obtain ⟨wo, rfl⟩ : ∃ wo : World, wo = wr := ⟨_, rfl⟩
        go_loopw [9] (fun i wr => ∃ j : Nat, j ≤ 4 ∧ i = .int .i64 j ∧ Below w.heap.size w wr ∧ Blk wr w.heap.size 56 (c32 r) ∧ Blk wr (w.heap.size + 1) 56 (c32 (List.replicate 8 0)) ∧ Blk wr (w.heap.size + 1 + 1) 91 (c32 (T.take t ++ [acc p t j] ++ List.replicate (63 - t) 0)) ∧ wr.heap.size = w.heap.size + 1 + 1 + 1) (fun i _ => 4 - (intOf i).toNat)
        case atStart => exact ⟨0, by omega, rfl, hbel, B0, B1, C2.out, HS.out⟩
        case round =>
          clear hbel B0 B1 C2 HS
          obtain ⟨j, hj4, rfl, hbel, B0, B1, B2, hsz⟩ := hrel
          have HS := Lib.hid hsz; clear hsz
          have htl : (T.take t).length = t := by rw [List.length_take, S64l.out]; omega
          by_cases hj : j < 4
          · obtain ⟨x, ex, lx, gx⟩ : ∃ x : Nat, x = p.getD (4 * t + j) 0 ∧ x < 256 ∧ wr.cell? ⟨b, o + (at_ + 4 * t + j), none⟩ = some (.int .u8 (x : Int)) := ⟨_, rfl, hpa.getD (by decide) _, by
              rw [Nat.add_assoc at_]; exact (hbel.cell (p := ⟨b, o + (at_ + (4 * t + j)), none⟩) hb).trans (HBP.out (4 * t + j) (by omega))⟩
            obtain ⟨y, ey, ly, gy⟩ : ∃ y : Nat, y = acc p t j ∧ y < 4294967296 ∧ wr.cell? ⟨w.heap.size + 1 + 1, t, none⟩ = some (.int .u32 (y : Int)) := ⟨_, rfl, acc_lt p t j, by
              have h := B2.w32 t (by rw [List.length_append, List.length_append, htl]; simp only [List.length_cons, List.length_nil]; omega)
              rw [List.getD_eq_getElem?_getD, List.append_assoc, List.getElem?_append_right (by omega), htl, Nat.sub_self] at h
              exact h⟩
            have fy := B2.frozen t
            have EX := Lib.hid ex; have EY := Lib.hid ey; have HT := Lib.hid htl
            clear ex ey htl
            have a0 : (0 : Int) ≤ (at_ : Int) + 4 * (t : Int) + (j : Int) := by omega
            have b0 : (at_ : Int) + 4 * (t : Int) + (j : Int) < (q.length : Int) := by omega
            have n0 : ((at_ : Int) + 4 * (t : Int) + (j : Int)).toNat = at_ + 4 * t + j := by omega
            have a1 : (0 : Int) ≤ (t : Int) := by omega
            have b1 : (t : Int) < 64 := by omega
            have m0 : IntKind.i64.wrap (4 * (t : Int)) = 4 * (t : Int) := IntWalk.i64_in _ (by omega)
            have m1 : IntKind.i64.wrap ((at_ : Int) + 4 * (t : Int)) = (at_ : Int) + 4 * (t : Int) := IntWalk.i64_in _ (by omega)
            have m2 : IntKind.i64.wrap ((at_ : Int) + 4 * (t : Int) + (j : Int)) = (at_ : Int) + 4 * (t : Int) + (j : Int) := IntWalk.i64_in _ (by omega)
            go_wp2
            go_still_tail 17, (by kernel_rfl)
            change wpList _ _ _ _ _ wr.drew
            go_wp2
            go_roundw
            case rel =>
              have e : ((y : Int) * 256 + (x : Int)) % 4294967296 = ((acc p t (j + 1) : Nat) : Int) := by
                rw [acc, ← EX.out, ← EY.out]; omega
              rw [e]
              refine ⟨j + 1, by omega, by go_num, (hbel.setCell (by show w.heap.size ≤ w.heap.size + 1 + 1; omega) _).drew, (B0.far (by show w.heap.size ≠ w.heap.size + 1 + 1; omega) _).drew, (B1.far (by show w.heap.size + 1 ≠ w.heap.size + 1 + 1; omega) _).drew, ?_, by simp [World.setCell, HS.out]⟩
              have h := (B2.set_ t (v32 (acc p t (j + 1)))).drew
              rw [c32_set _ _ _ _ _ HT.out] at h
              exact h
            case measure => simp [intOf]; omega
          · go_wp2
            go_roundw
            case rel =>
              refine ⟨t + 1, by omega, by go_num, hbel, B0, B1, ?_, HS.out⟩
              have h := B2
              rw [show j = 4 by omega, acc_four hpa, ← S64_low p t hlo, ← HT0.out] at h
              rw [show 64 - (t + 1) = 63 - t by omega, List.take_succ_eq_append_getElem (by rw [S64l.out]; omega), show T[t]'(by rw [S64l.out]; omega) = T.getD t 0 by rw [List.getD_eq_getElem?_getD, List.getElem?_eq_getElem (by rw [S64l.out]; omega)]; rfl]
              exact h
            case measure => simp [intOf]; omega)
      · (
        have cc : ∀ j, 1 ≤ j → j ≤ 16 → ∃ x : Nat, x = T.getD (t - j) 0 ∧ x < 4294967296 ∧ wr.cell? ⟨w.heap.size + 1 + 1, t - j, none⟩ = some (.int .u32 (x : Int)) := fun j hj1 hj2 => ⟨_, rfl, S64a.getD (by decide) _, by
          have h := B2.w32 (t - j) (by rw [List.length_append, List.length_take, S64l.out, List.length_replicate]; omega)
          rw [List.getD_eq_getElem?_getD, List.getElem?_append_left (by rw [List.length_take, S64l.out]; omega), ← List.getD_eq_getElem?_getD, getD_take _ _ _ (by omega)] at h
          exact h⟩
        obtain ⟨x, e0, l0, g0⟩ := cc 15 (by omega) (by omega)
        obtain ⟨y, e1, l1, g1⟩ := cc 2 (by omega) (by omega)
        obtain ⟨x16, e2, l2, g2⟩ := cc 16 (by omega) (by omega)
        obtain ⟨x7, e3, l3, g3⟩ := cc 7 (by omega) (by omega)
        have E0 := Lib.hid e0; have E1 := Lib.hid e1; have E2 := Lib.hid e2; have E3 := Lib.hid e3
        obtain ⟨z, gz⟩ : ∃ z, wr.cell? ⟨w.heap.size + 1 + 1, t, none⟩ = some z := ⟨_, B2.w32 t (by rw [List.length_append, List.length_take, S64l.out, List.length_replicate]; omega)⟩
        have f5 := B2.frozen t
        clear e0 e1 e2 e3 cc
        have t15 : ((t : Int) - 15).toNat = t - 15 := by omega
        have t2 : ((t : Int) - 2).toNat = t - 2 := by omega
        have t16 : ((t : Int) - 16).toNat = t - 16 := by omega
        have t7 : ((t : Int) - 7).toNat = t - 7 := by omega
        have a15 : (0 : Int) ≤ (t : Int) - 15 := by omega
        have a2 : (0 : Int) ≤ (t : Int) - 2 := by omega
        have a16 : (0 : Int) ≤ (t : Int) - 16 := by omega
        have a7 : (0 : Int) ≤ (t : Int) - 7 := by omega
        have an : (0 : Int) ≤ (t : Int) := by omega
        have b15 : (t : Int) - 15 < 64 := by omega
        have b2 : (t : Int) - 2 < 64 := by omega
        have b16 : (t : Int) - 16 < 64 := by omega
        have b7 : (t : Int) - 7 < 64 := by omega
        have bn : (t : Int) < 64 := by omega
        have q16 : (16 : Int) ≤ (t : Int) := by omega
        have q7 : (7 : Int) ≤ (t : Int) := by omega
        have m15 : IntKind.i64.wrap ((t : Int) - 15) = (t : Int) - 15 := IntWalk.i64_in _ (by omega)
        have m2 : IntKind.i64.wrap ((t : Int) - 2) = (t : Int) - 2 := IntWalk.i64_in _ (by omega)
        have m16 : IntKind.i64.wrap ((t : Int) - 16) = (t : Int) - 16 := IntWalk.i64_in _ (by omega)
        have m7 : IntKind.i64.wrap ((t : Int) - 7) = (t : Int) - 7 := IntWalk.i64_in _ (by omega)
        have d1 : decide ((t : Int) < 64) = true := decide_eq_true (by omega)
        have d2 : decide ((t : Int) < 16) = false := decide_eq_false (by omega)
        go_wp2_with (first
          | (go_at_call 66; (with_reducible refine (rround_7 x _ l0).mono ?_); rintro e w' ⟨rfl, rfl⟩)
          | (go_at_call 66; (with_reducible refine (rround_18 x _ l0).mono ?_); rintro e w' ⟨rfl, rfl⟩)
          | (go_at_call 66; (with_reducible refine (rround_17 y _ l1).mono ?_); rintro e w' ⟨rfl, rfl⟩)
          | (go_at_call 66; (with_reducible refine (rround_19 y _ l1).mono ?_); rintro e w' ⟨rfl, rfl⟩))
        go_still_tail 15, (by kernel_rfl)
        change wpList _ _ _ _ _ wr.drew
        go_wp2
        go_roundw
        case rel =>
          rw [sg0_int x l0, sg1_int y l1]
          have e : ((x16 : Int) + ((sg0 x : Nat) : Int) + (x7 : Int) + ((sg1 y : Nat) : Int)) % 4294967296 = ((T.getD t 0 : Nat) : Int) := by
            rw [HT0.out, S64_high p t (by omega) hlt, ← HT0.out, ← E0.out, ← E1.out, ← E2.out, ← E3.out]
            omega
          rw [e]
          refine ⟨t + 1, by omega, by go_num, (hbel.setCell (by show w.heap.size ≤ w.heap.size + 1 + 1; omega) _).drew, (B0.far (by show w.heap.size ≠ w.heap.size + 1 + 1; omega) _).drew, (B1.far (by show w.heap.size + 1 ≠ w.heap.size + 1 + 1; omega) _).drew, ?_, by simp [World.setCell, HS.out]⟩
          have h := (B2.set_ t (v32 (T.getD t 0))).drew
          rw [show 64 - t = (64 - (t + 1)) + 1 by omega, c32_push _ _ _ _ (by rw [List.length_take, S64l.out]; omega)] at h
          rw [List.take_succ_eq_append_getElem (by rw [S64l.out]; omega), show T[t]'(by rw [S64l.out]; omega) = T.getD t 0 by rw [List.getD_eq_getElem?_getD, List.getElem?_eq_getElem (by rw [S64l.out]; omega)]; rfl]
          exact h
        case measure => simp [intOf]; omega)
    · have C2 : Hid (Blk wr (w.heap.size + 1 + 1) 91 (c32 T)) := by
        have h := B2
        rw [show 64 - t = 0 by omega, List.replicate_zero, List.append_nil, List.take_of_length_le (by rw [S64l.out]; omega)] at h
        exact h
      clear B2
      have d1 : decide ((t : Int) < 64) = false := decide_eq_false (by omega)
      have nz : ∀ i, i < 8 → ∃ x : Nat, x = r.getD i 0 ∧ x < 4294967296 ∧ wr.cell? ⟨w.heap.size, i, none⟩ = some (.int .u32 (x : Int)) := fun i hi => ⟨_, rfl, hra.getD (by decide) i, B0.w32 i (by rw [HR.out]; omega)⟩
      obtain ⟨y0, ey0, ly0, z0⟩ := nz 0 (by omega)
      obtain ⟨y1, ey1, ly1, z1⟩ := nz 1 (by omega)
      obtain ⟨y2, ey2, ly2, z2⟩ := nz 2 (by omega)
      obtain ⟨y3, ey3, ly3, z3⟩ := nz 3 (by omega)
      obtain ⟨y4, ey4, ly4, z4⟩ := nz 4 (by omega)
      obtain ⟨y5, ey5, ly5, z5⟩ := nz 5 (by omega)
      obtain ⟨y6, ey6, ly6, z6⟩ := nz 6 (by omega)
      obtain ⟨y7, ey7, ly7, z7⟩ := nz 7 (by omega)
      clear nz
      have EY0 := Lib.hid ey0; clear ey0
      have EY1 := Lib.hid ey1; clear ey1
      have EY2 := Lib.hid ey2; clear ey2
      have EY3 := Lib.hid ey3; clear ey3
      have EY4 := Lib.hid ey4; clear ey4
      have EY5 := Lib.hid ey5; clear ey5
      have EY6 := Lib.hid ey6; clear ey6
      have EY7 := Lib.hid ey7; clear ey7
      go_wp2
      have B3 : Blk (wr.alloc (.cells #[.int .u32 y0, .int .u32 y1, .int .u32 y2, .int .u32 y3, .int .u32 y4, .int .u32 y5, .int .u32 y6, .int .u32 y7] 56)) (w.heap.size + 1 + 1 + 1) 56 (c32 r) := by
        have h := Blk.new_ wr 56 (c32 r) _ HS.out
        have e : c32 r = #[.int .u32 y0, .int .u32 y1, .int .u32 y2, .int .u32 y3, .int .u32 y4, .int .u32 y5, .int .u32 y6, .int .u32 y7] := by
          rw [EY0.out, EY1.out, EY2.out, EY3.out, EY4.out, EY5.out, EY6.out, EY7.out]
          exact c32_eight r HR.out
        rw [← e]
        exact h
      have hbel' := hbel.alloc (by rw [HS.out]; omega) (.cells #[.int .u32 y0, .int .u32 y1, .int .u32 y2, .int .u32 y3, .int .u32 y4, .int .u32 y5, .int .u32 y6, .int .u32 y7] 56)
      have B0' := B0.alloc (.cells #[.int .u32 y0, .int .u32 y1, .int .u32 y2, .int .u32 y3, .int .u32 y4, .int .u32 y5, .int .u32 y6, .int .u32 y7] 56)
      have B1' := B1.alloc (.cells #[.int .u32 y0, .int .u32 y1, .int .u32 y2, .int .u32 y3, .int .u32 y4, .int .u32 y5, .int .u32 y6, .int .u32 y7] 56)
      have C2' := Lib.hid (C2.out.alloc (.cells #[.int .u32 y0, .int .u32 y1, .int .u32 y2, .int .u32 y3, .int .u32 y4, .int .u32 y5, .int .u32 y6, .int .u32 y7] 56))
      rw [HS.out]
      clear z0 z1 z2 z3 z4 z5 z6 z7 hbel B0 B1 C2
      generalize (wr.alloc (.cells #[.int .u32 y0, .int .u32 y1, .int .u32 y2, .int .u32 y3, .int .u32 y4, .int .u32 y5, .int .u32 y6, .int .u32 y7] 56)) = wo at *
      go_loopw [15] (fun i wr => ∃ m : Nat, m ≤ 64 ∧ i = .int .i64 m ∧ (∃ R : List Nat, R = regs r T m ∧ Blk wr (w.heap.size + 1 + 1 + 1) 56 (c32 R)) ∧ Below w.heap.size w wr ∧ Blk wr w.heap.size 56 (c32 r) ∧ Blk wr (w.heap.size + 1) 56 (c32 (List.replicate 8 0)) ∧ Blk wr (w.heap.size + 1 + 1) 91 (c32 T)) (fun i _ => 64 - (intOf i).toNat)
      case atStart => exact ⟨0, by omega, rfl, ⟨r, rfl, B3⟩, hbel', B0', B1', C2'.out⟩
      case round =>
        clear hbel' B0' B1' C2' B3
        obtain ⟨m, hm, rfl, ⟨R, hR, B3⟩, hbel, B0, B1, B2⟩ := hrel
        have hRa : All 4294967296 R := hR ▸ regs_all hra m
        have hRl : R.length = 8 := hR ▸ regs_len HR.out m
        have nm : ∀ i, i < 8 → ∃ x : Nat, x = R.getD i 0 ∧ x < 4294967296 ∧ wr.cell? ⟨w.heap.size + 1 + 1 + 1, i, none⟩ = some (.int .u32 (x : Int)) := fun i hi => ⟨_, rfl, hRa.getD (by decide) i, B3.w32 i (by omega)⟩
        have HRR := Lib.hid hR
        have HRL := Lib.hid hRl
        obtain ⟨A, eA, lA, g0⟩ := nm 0 (by omega)
        obtain ⟨B, eB, lB, g1⟩ := nm 1 (by omega)
        obtain ⟨C, eC, lC, g2⟩ := nm 2 (by omega)
        obtain ⟨D, eD, lD, g3⟩ := nm 3 (by omega)
        obtain ⟨E, eE, lE, g4⟩ := nm 4 (by omega)
        obtain ⟨F, eF, lF, g5⟩ := nm 5 (by omega)
        obtain ⟨G, eG, lG, g6⟩ := nm 6 (by omega)
        obtain ⟨K, eK, lK, g7⟩ := nm 7 (by omega)
        have EA := Lib.hid eA; have EB := Lib.hid eB; have EC := Lib.hid eC; have ED := Lib.hid eD; have EE := Lib.hid eE; have EF := Lib.hid eF; have EG := Lib.hid eG; have EK := Lib.hid eK
        clear nm eA eB eC eD eE eF eG eK hR hRl
        by_cases hlt3 : m < 64
        · (
          have f0 := B3.frozen 0; have f1 := B3.frozen 1; have f2 := B3.frozen 2; have f3 := B3.frozen 3
          have f4 := B3.frozen 4; have f5 := B3.frozen 5; have f6 := B3.frozen 6; have f7 := B3.frozen 7
          obtain ⟨kt, ekt⟩ : ∃ x : Nat, x = roots.getD m 0 := ⟨_, rfl⟩
          obtain ⟨ww, eww⟩ : ∃ x : Nat, x = T.getD m 0 := ⟨_, rfl⟩
          have lk : kt < 4294967296 := ekt ▸ roots_all.getD (by decide) m
          have lw : ww < 4294967296 := eww ▸ S64a.getD (by decide) m
          have gk : wr.cell? ⟨2, m, none⟩ = some (.int .u32 (kt : Int)) := by rw [hbel.cell (p := ⟨2, m, none⟩) h2, ht m hlt3, ekt]; rfl
          have gw : wr.cell? ⟨w.heap.size + 1 + 1, m, none⟩ = some (.int .u32 (ww : Int)) := by rw [B2.w32 m (by rw [S64l.out]; omega), eww]
          have EK' := Lib.hid ekt; have EW := Lib.hid eww
          clear ekt eww
          have am : (0 : Int) ≤ (m : Int) := by omega
          have bm : (m : Int) < 64 := by omega
          have dm : decide ((m : Int) < 64) = true := decide_eq_true bm
          go_wp2
          go_quiet (fail)
          go_wp2
          go_quiet (first
            | (go_at_call 66; with_reducible exact quiet_left (rround_6 E _ lE))
            | (go_at_call 66; with_reducible exact quiet_left (rround_11 E _ lE))
            | (go_at_call 66; with_reducible exact quiet_left (rround_25 E _ lE))
            | (go_at_call 66; with_reducible exact quiet_add_left (rround_6 E _ lE))
            | (go_at_call 66; with_reducible exact quiet_add_left (rround_11 E _ lE))
            | (go_at_call 66; with_reducible exact quiet_add_left (rround_25 E _ lE)))
          go_wp2_with (first
            | (go_at_call 66; (with_reducible refine (rround_2 A _ lA).mono ?_); rintro e w' ⟨rfl, rfl⟩)
            | (go_at_call 66; (with_reducible refine (rround_13 A _ lA).mono ?_); rintro e w' ⟨rfl, rfl⟩)
            | (go_at_call 66; (with_reducible refine (rround_22 A _ lA).mono ?_); rintro e w' ⟨rfl, rfl⟩))
          go_roundw
          case rel =>
            rw [bg1_int E lE, cho_int' E F G lE lF lG, bg0_int A lA, maj_int A B C lA lB lC]
            have e0 : ((K : Int) + ((bg1 E : Nat) : Int) + ((cho E F G : Nat) : Int) + (kt : Int) + (ww : Int) + (((bg0 A : Nat) : Int) + ((maj A B C : Nat) : Int))) % 4294967296 = ((((stepU R (roots.getD m 0) (T.getD m 0) + stepV R) % 4294967296 : Nat)) : Int) := by
              unfold stepU stepV
              rw [← EA.out, ← EB.out, ← EC.out, ← EE.out, ← EF.out, ← EG.out, ← EK.out, ← EK'.out, ← EW.out]
              omega
            have e4 : ((D : Int) + ((K : Int) + ((bg1 E : Nat) : Int) + ((cho E F G : Nat) : Int) + (kt : Int) + (ww : Int))) % 4294967296 = (((R.getD 3 0 + stepU R (roots.getD m 0) (T.getD m 0)) % 4294967296 : Nat) : Int) := by
              unfold stepU
              rw [← ED.out, ← EE.out, ← EF.out, ← EG.out, ← EK.out, ← EK'.out, ← EW.out]
              omega
            rw [e0, e4]
            refine ⟨m + 1, by omega, by go_num, ⟨stepR R (roots.getD m 0) (T.getD m 0), by rw [HRR.out]; rfl, ?_⟩, below_eight (below_drewN hbel _) (by omega) _ _ _ _ _ _ _ _, (B0.drewN _).far_eight (by omega) _ _ _ _ _ _ _ _, (B1.drewN _).far_eight (by omega) _ _ _ _ _ _ _ _, (B2.drewN _).far_eight (by omega) _ _ _ _ _ _ _ _⟩
            rw [EA.out, EB.out, EC.out, EE.out, EF.out, EG.out]
            exact (B3.drewN _).eight (by simp [c32, HRL.out]) _ _ _ _ _ _ _ _
          case measure => simp [intOf]; omega)
        · have HRF : Hid (R = regs r T 64) := by rw [HRR.out, show m = 64 by omega]; exact rfl
          have hge3 : 64 ≤ m := by omega
          clear g0 g1 g2 g3 g4 g5 g6 g7 HRR EA EB EC ED EE EF EG EK lA lB lC lD lE lF lG lK A B C D E F G K B2 hlt3
          have hHL : Hid ((addR r R).length = 8) := addR_len r R
          obtain ⟨L, hL⟩ : ∃ L, L = addR r R := ⟨_, rfl⟩
          rw [← hL] at hHL
          have HL := Lib.hid hL
          clear hL
          go_wp2
          obtain ⟨wo3, rfl⟩ : ∃ wo3 : World, wo3 = wr := ⟨_, rfl⟩
          go_loopw [22] (fun i wr => ∃ k : Nat, k ≤ 8 ∧ i = .int .i64 k ∧ Blk wr (w.heap.size + 1 + 1 + 1) 56 (c32 (L.take k ++ R.drop k)) ∧ Below w.heap.size w wr ∧ Blk wr w.heap.size 56 (c32 r) ∧ Blk wr (w.heap.size + 1) 56 (c32 (List.replicate 8 0))) (fun i _ => 8 - (intOf i).toNat)
          case atStart => exact ⟨0, by omega, rfl, B3, hbel, B0, B1⟩
          case round =>
            clear hbel B0 B1 B3
            obtain ⟨k, hk, rfl, B3, hbel, B0, B1⟩ := hrel
            by_cases hlt4 : k < 8
            · (
              obtain ⟨x, ex, lx, gx⟩ : ∃ x : Nat, x = R.getD k 0 ∧ x < 4294967296 ∧ wr.cell? ⟨w.heap.size + 1 + 1 + 1, k, none⟩ = some (.int .u32 (x : Int)) := ⟨_, rfl, hRa.getD (by decide) _, by
                have h := B3.w32 k (by rw [List.length_append, List.length_take, List.length_drop, hHL.out, HRL.out]; omega)
                rw [List.getD_eq_getElem?_getD, List.getElem?_append_right (by rw [List.length_take, hHL.out]; omega), List.length_take, hHL.out, List.getElem?_drop, show k + (k - min k 8) = k by omega, ← List.getD_eq_getElem?_getD] at h
                exact h⟩
              obtain ⟨y, ey, ly, gy⟩ : ∃ y : Nat, y = r.getD k 0 ∧ y < 4294967296 ∧ wr.cell? ⟨w.heap.size, k, none⟩ = some (.int .u32 (y : Int)) := ⟨_, rfl, hra.getD (by decide) _, B0.w32 k (by rw [HR.out]; omega)⟩
              have EX := Lib.hid ex; have EY := Lib.hid ey
              clear ex ey
              have fx := B3.frozen k
              have ak : (0 : Int) ≤ (k : Int) := by omega
              have bk : (k : Int) < 8 := by omega
              have dk : decide ((k : Int) < 8) = true := decide_eq_true bk
              go_wp2
              go_still_tail 9, (by kernel_rfl)
              change wpList _ _ _ _ _ wr.drew
              go_wp2
              go_roundw
              case rel =>
                have e : ((x : Int) + (y : Int)) % 4294967296 = ((L.getD k 0 : Nat) : Int) := by
                  rw [HL.out, show (addR r R).getD k 0 = (r.getD k 0 + R.getD k 0) % 4294967296 by simp [addR, List.getD_eq_getElem?_getD, hlt4], ← EX.out, ← EY.out]
                  omega
                rw [e]
                refine ⟨k + 1, by omega, by go_num, ?_, (hbel.setCell (by show w.heap.size ≤ w.heap.size + 1 + 1 + 1; omega) _).drew, (B0.far (by show w.heap.size ≠ w.heap.size + 1 + 1 + 1; omega) _).drew, (B1.far (by show w.heap.size + 1 ≠ w.heap.size + 1 + 1 + 1; omega) _).drew⟩
                have h := (B3.set_ k (v32 (L.getD k 0))).drew
                rw [add_take L R k (by rw [hHL.out]; omega) (by rw [hHL.out, HRL.out])] at h
                exact h
              case measure => simp [intOf]; omega)
            · have hge4 : 8 ≤ k := by omega
              have B3' : Blk wr (w.heap.size + 1 + 1 + 1) 56 (c32 L) := by
                have h := B3
                rw [List.take_of_length_le (by rw [hHL.out]; omega), List.drop_eq_nil_of_le (by rw [HRL.out]; omega), List.append_nil] at h
                exact h
              clear B3
              have nx : ∀ i, i < 8 → ∃ v : Value, v = .int .u32 (L.getD i 0 : Nat) ∧ wr.cell? ⟨w.heap.size + 1 + 1 + 1, i, none⟩ = some v ∧ v.oneCell' = true := fun i hi => ⟨_, rfl, B3'.w32 i (by rw [hHL.out]; omega), rfl⟩
              have q : ∀ i, i < 8 → wr.cell? ⟨w.heap.size + 1, i, none⟩ = some (.int .u32 0) := fun j hj => by
                rw [B1.w32 j (by rw [List.length_replicate]; omega), List.getD_eq_getElem?_getD, List.getElem?_replicate, if_pos hj]
                rfl
              have q0 := q 0 (by omega); have q1 := q 1 (by omega); have q2 := q 2 (by omega); have q3 := q 3 (by omega)
              have q4 := q 4 (by omega); have q5 := q 5 (by omega); have q6 := q 6 (by omega); have q7 := q 7 (by omega)
              have s0 := B1.frozen 0; have s1 := B1.frozen 1; have s2 := B1.frozen 2; have s3 := B1.frozen 3
              have s4 := B1.frozen 4; have s5 := B1.frozen 5; have s6 := B1.frozen 6; have s7 := B1.frozen 7
              clear q
              have ny : ∀ i, i < 8 → ∃ x : Nat, x = L.getD i 0 ∧ wr.cell? ⟨w.heap.size + 1 + 1 + 1, i, none⟩ = some (.int .u32 (x : Int)) := fun i hi => ⟨_, rfl, B3'.w32 i (by rw [hHL.out]; omega)⟩
              clear nx
              obtain ⟨u0_, k0, c0⟩ := ny 0 (by omega)
              obtain ⟨u1_, k1, c1⟩ := ny 1 (by omega)
              obtain ⟨u2_, k2, c2⟩ := ny 2 (by omega)
              obtain ⟨u3_, k3, c3⟩ := ny 3 (by omega)
              obtain ⟨u4_, k4, c4⟩ := ny 4 (by omega)
              obtain ⟨u5_, k5, c5⟩ := ny 5 (by omega)
              obtain ⟨u6_, k6, c6⟩ := ny 6 (by omega)
              obtain ⟨u7_, k7, c7⟩ := ny 7 (by omega)
              clear ny
              have K0 := Lib.hid k0; have K1 := Lib.hid k1; have K2 := Lib.hid k2; have K3 := Lib.hid k3
              have K4 := Lib.hid k4; have K5 := Lib.hid k5; have K6 := Lib.hid k6; have K7 := Lib.hid k7
              clear k0 k1 k2 k3 k4 k5 k6 k7
              go_wp2
              have hB := B1.eight (by rfl) (.int .u32 (u0_ : Int)) (.int .u32 (u1_ : Int)) (.int .u32 (u2_ : Int)) (.int .u32 (u3_ : Int)) (.int .u32 (u4_ : Int)) (.int .u32 (u5_ : Int)) (.int .u32 (u6_ : Int)) (.int .u32 (u7_ : Int))
              have hBel := below_eight hbel (g := w.heap.size + 1) (by omega) (.int .u32 (u0_ : Int)) (.int .u32 (u1_ : Int)) (.int .u32 (u2_ : Int)) (.int .u32 (u3_ : Int)) (.int .u32 (u4_ : Int)) (.int .u32 (u5_ : Int)) (.int .u32 (u6_ : Int)) (.int .u32 (u7_ : Int))
              have e : turn r p = L := by
                rw [HL.out, HRF.out, HT0.out]; rfl
              have eL := c32_eight L hHL.out
              rw [← K0.out, ← K1.out, ← K2.out, ← K3.out, ← K4.out, ← K5.out, ← K6.out, ← K7.out] at eL
              rw [e, eL]
              exact bodyPost_ret (results_cell_row rfl _ _ (w.heap.size + 1) 56 _ (0, 0) _ rfl hB Tryd.underlying56 rfl (by kernel_rfl)) rfl ⟨rfl, hBel⟩
end Go.Proofs.YtfedlgcpgfofjaaDoor.Sha
namespace Go.Proofs.YtfedlgcpgfofjaaDoor.Sha
open Go.RowKit Go.Proofs.YtfedlgcpgfofjaaDoorW.PrintWords
set_option linter.unusedVariables false
/-- Naturals as the print's integers. -/
def toI (p : List Nat) : List Int := p.map (fun x : Nat => (Int.ofNat x : Int))
theorem toI_len (p : List Nat) : (toI p).length = p.length := List.length_map _
theorem toI_getD (p : List Nat) (j : Nat) : (toI p).getD j 0 = ((p.getD j 0 : Nat) : Int) := by
  unfold toI
  rw [List.getD_eq_getElem?_getD, List.getElem?_map, List.getD_eq_getElem?_getD]
  cases p[j]? <;> rfl
theorem whole_addr {w : World} {a : Addr} {v : Value} (h : w.cell? a = some v) : a.spot = none := by
  unfold World.cell? at h
  split at h
  · split at h
    · cases h
    · rename_i hs
      simpa using hs
  · cases h
/-- Bytes that a slice shows. -/
def C8 (w : World) (A : Option Addr) (n : Nat) (p : List Nat) : Prop := Kd.C (Kd.int .u8) w A n (toI p)
theorem C8.len {w : World} {A : Option Addr} {n : Nat} {p : List Nat} (h : C8 w A n p) : p.length = n := by
  have := h.1
  rwa [toI_len] at this
theorem C8.below {w w' : World} {A : Option Addr} {n : Nat} {p : List Nat} (h : C8 w A n p) (hb : Below w.heap.size w w') : C8 w' A n p := Kd.C_below h hb
theorem C8.at_ {w : World} {A : Option Addr} {n : Nat} {p : List Nat} (h : C8 w A n p) (h0 : 0 < n) : ∃ b o, A = some ⟨b, o, none⟩ ∧ b < w.heap.size ∧ Bs w b o p := by
  have hr := Kd.reads_of_C (enc := Value.int .u8) (d := (0 : Int)) (h1 := fun _ => rfl) h
  obtain ⟨ad, e, hc⟩ := hr.2.2 h0
  have hl := h.len
  have hs := whole_addr (show w.cell? ad = _ by have := hc 0 h0; rwa [show ad.add 0 = ad from rfl] at this)
  obtain ⟨b, o, s⟩ := ad
  obtain rfl : s = none := hs
  refine ⟨b, o, e, block_lt_of_cell (a := ⟨b, o, none⟩) (by have := hc 0 h0; rwa [show (Addr.mk b o none).add 0 = ⟨b, o, none⟩ from rfl] at this), fun j hj => ?_⟩
  have := hc j (by omega)
  rw [Addr.add_mid, toI_getD] at this
  exact this
theorem C8.of_Bs {w : World} {b o : Nat} {p : List Nat} (h : Bs w b o p) (hl : p.length ≤ 9223372036854775807) : C8 w (some ⟨b, o, none⟩) p.length p := by
  refine Kd.C_of_reads (enc := Value.int .u8) (d := (0 : Int)) (h1 := fun _ => rfl) ⟨toI_len p, hl, fun h0 => ⟨_, rfl, fun j hj => ?_⟩⟩
  rw [Addr.add_mid, toI_getD]
  exact h j hj
theorem C8.nil (w : World) (A : Option Addr) : C8 w A 0 [] :=
  Kd.C_of_reads (enc := Value.int .u8) (d := (0 : Int)) (h1 := fun _ => rfl) ⟨by simp [toI], by omega, fun h0 => absurd h0 (by omega)⟩
theorem Bs.below {w w' : World} {b o : Nat} {p : List Nat} {B : Nat} (h : Bs w b o p) (hb : Below B w w') (hlt : b < B) : Bs w' b o p :=
  fun j hj => (hb.cell (p := ⟨b, o + j, none⟩) hlt).trans (h j hj)
theorem Bs.sub {w : World} {b o : Nat} {p : List Nat} (h : Bs w b o p) (k n : Nat) (hn : k + n ≤ p.length) : Bs w b (o + k) ((p.drop k).take n) := by
  intro j hj
  rw [List.length_take, List.length_drop] at hj
  rw [Nat.add_assoc, h (k + j) (by omega), getD_take _ _ _ (by omega), List.getD_eq_getElem?_getD, List.getD_eq_getElem?_getD, List.getElem?_drop]

/-- Block g alone has turned, and stands as long as it was. -/
structure Only (g : Nat) (w w' : World) : Prop where
  os : w'.os = w.os
  tape : w'.tape = w.tape
  output : w'.output = w.output
  size : w'.heap.size = w.heap.size
  block : ∀ k, k ≠ g → w'.heap[k]? = w.heap[k]?
theorem Only.setRow (w : World) (g : Nat) (cs : Array Value) : Only g w (w.setRow g cs) :=
  ⟨rfl, rfl, rfl, by simp [World.setRow], fun k hk => setRow_other w g k cs hk⟩
theorem Blk.only {w w' : World} {k g t : Nat} {cs : Array Value} (h : Blk w k t cs) (O : Only g w w') (hne : k ≠ g) : Blk w' k t cs := (O.block k hne).trans h
theorem Only.below {w w' : World} {B g : Nat} {a : World} (O : Only g w w') (h : Below B a w) (hg : B ≤ g) : Below B a w' :=
  h.trans ⟨O.os, O.tape, O.output, by rw [O.size]; exact Nat.le_refl _, fun k hk => O.block k (by omega)⟩
theorem Only.drew {w w' : World} {g : Nat} (O : Only g w w') : Only g w.drew w' := ⟨O.os, O.tape, O.output, O.size, O.block⟩
section
variable {P : Program} {w : World} {ops : Array Oper} {rest : List Oper} {o : Oper} {a : Act} {Q : Exit → Act → World → Prop}
theorem range_of_blk {g t : Nat} {pre mid post : List Value} (h : Blk w g t (pre ++ mid ++ post).toArray) : w.rangeAt g pre.length mid := by
  intro j v hv
  rw [h.cell]
  have hj := (List.getElem?_eq_some_iff.1 hv).1
  simp only [List.getElem?_toArray]
  rw [List.append_assoc, List.getElem?_append_right (by omega), Nat.add_sub_cancel_left, List.getElem?_append_left hj]
  exact hv
theorem wpl_load (hgd : o.guard = none) (ty : TypeId) (x : Operand) (ho : o.op = .load ty x) (g off : Nat) (hx : a.eval x = .pointer (some ⟨g, off, none⟩)) (t : TypeId) (pre mid post : List Value)
    (hB : Blk w g t (pre ++ mid ++ post).toArray) (hoff : pre.length = off) (d : TypeDesc) (hu : P.underlying ty = some d) (hd : d.isRow = true) (hi : (P.info? ty).map (·.size) = some mid.length)
    (h : wpList P ops Q rest (a.put o.dst (.agg mid.toArray)) w) : wpList P ops Q (o :: rest) a w :=
  wpList_load_mid hgd ty x ho g off hx mid d (hoff ▸ range_of_blk hB) hu hd hi h
theorem run_storeVar_blk (g off : Nat) (ty t : TypeId) (pre mid post new : List Value) (hB : Blk w g t (pre ++ mid ++ post).toArray) (hoff : pre.length = off) (hn : new.length = mid.length)
    (hi : (P.info? ty).map (·.size) = some new.length) (h1 : ∀ v ∈ new, v.oneCell' = true) :
    (storeVar ty ⟨g, off, none⟩ (.agg new.toArray)).run P w = .ok () (w.setRow g (pre ++ new ++ post).toArray) := by
  have hs := run_storeCells_at P g off t new 0 (pre ++ mid ++ post).toArray w hB (by simp only [List.size_toArray, List.length_append]; omega) h1
  have e : List.take off (pre ++ mid ++ post) ++ new ++ List.drop (off + new.length) (pre ++ mid ++ post) = pre ++ new ++ post := by
    rw [List.append_assoc pre mid post, List.take_left' hoff, ← List.append_assoc pre mid post, List.drop_left' (by rw [List.length_append]; omega)]
  simp only [Nat.add_zero, e] at hs
  cases hq : P.info? ty with
  | none => simp [hq] at hi
  | some i =>
    have hsz : i.size = new.length := by simpa [hq] using hi
    simp [storeVar, sizeOf, typeInfo, hq, Value.cells, hsz, hs]
theorem wpl_store (hgd : o.guard = none) (ty : TypeId) (x y : Operand) (ho : o.op = .store ty x y) (g off : Nat) (hx : a.eval x = .pointer (some ⟨g, off, none⟩)) (t : TypeId) (pre mid post new : List Value)
    (hy : a.eval y = .agg new.toArray) (hB : Blk w g t (pre ++ mid ++ post).toArray) (hoff : pre.length = off) (hn : new.length = mid.length) (hi : (P.info? ty).map (·.size) = some new.length)
    (h1 : ∀ v ∈ new, v.oneCell' = true) (h : ∀ w', Blk w' g t (pre ++ new ++ post).toArray → Only g w w' → wpList P ops Q rest (a.put o.dst undef) w') : wpList P ops Q (o :: rest) a w := by
  refine wpList_plain hgd fun _ hK => ?_
  unfold Oper.wp execOp
  simp only [ho, hx, hy, Instr.storeAt, Instr.sureAddr, Sem.run_bind, Sem.run_pure, Result.andThen_ok, run_storeVar_blk g off ty t pre mid post new hB hoff hn hi h1]
  exact hK _ _ (h _ (setRow_heap w g _ _ t _ hB) (Only.setRow w g _))
theorem wpl_copy (hgd : o.guard = none) (d s : Operand) (dT sT : TypeId) (ho : o.op = .call { callee := .builtin .copy, args := #[d, s], argTypes := #[dT, sT] }) (elem : TypeId)
    (hu : P.underlying dT = some (.slice elem)) (hsz : (P.info? elem).map (·.size) = some 1) (dp sp : Option Addr) (dLen dCap sLen sCap : Nat) (hd : a.eval d = .slice dp dLen dCap) (hs : a.eval s = .slice sp sLen sCap)
    (g off : Nat) (t : TypeId) (pre mid post new : List Value) (hB : Blk w g t (pre ++ mid ++ post).toArray) (hoff : pre.length = off) (hn : new.length = mid.length) (hmin : new.length = Nat.min sLen dLen)
    (hpos : 0 < new.length → dp = some ⟨g, off, none⟩ ∧ ∃ ad, sp = some ad ∧ ∀ j v, new[j]? = some v → w.cell? (ad.add j) = some v) (h1 : ∀ v ∈ new, v.oneCell' = true)
    (h : ∀ w', Blk w' g t (pre ++ new ++ post).toArray → Only g w w' → wpList P ops Q rest (a.put o.dst (goInt new.length)) w') : wpList P ops Q (o :: rest) a w := by
  by_cases h0 : new.length = 0
  · obtain rfl : new = [] := List.eq_nil_of_length_eq_zero h0
    obtain rfl : mid = [] := List.eq_nil_of_length_eq_zero (by rw [← hn]; rfl)
    refine wpList_copy_nothing hgd d s dT sT ho elem hu hsz dp sp dLen dCap sLen sCap hd hs (by simpa using hmin.symm) ?_
    exact h w hB ⟨rfl, rfl, rfl, rfl, fun _ _ => rfl⟩
  · obtain ⟨rfl, ad, rfl, hsrc⟩ := hpos (by omega)
    refine wpList_copy_own hgd d s dT sT ho elem hu hsz g off dLen dCap ad sLen sCap hd hs (pre ++ mid ++ post).toArray t hB new hmin hsrc (by simp only [List.size_toArray, List.length_append]; omega) h1 ?_
    have e : List.take off (pre ++ mid ++ post) ++ (new ++ List.drop (off + new.length) (pre ++ mid ++ post)) = pre ++ new ++ post := by
      rw [List.append_assoc pre mid post, List.take_left' hoff, ← List.append_assoc pre mid post, List.drop_left' (by rw [List.length_append]; omega), List.append_assoc]
    rw [List.toList_toArray, e]
    exact h _ (setRow_heap w g _ _ t _ hB) (Only.setRow w g _)
end
end Go.Proofs.YtfedlgcpgfofjaaDoor.Sha
namespace Go.Proofs.YtfedlgcpgfofjaaDoor.Sha
open Go.RowKit Go.Proofs.YtfedlgcpgfofjaaDoorW.PrintWords
set_option linter.unusedVariables false
theorem one32 : ∀ (l : List Nat), ∀ v ∈ l.map v32, v.oneCell' = true := by
  intro l v hv
  obtain ⟨x, _, rfl⟩ := List.mem_map.1 hv
  rfl
theorem c32_blk (l : List Nat) : c32 l = ([] ++ l.map v32 ++ ([] : List Value)).toArray := by simp [c32]
theorem Tab2.below {w w' : World} {B : Nat} (h : Tab2 w) (hb : Below B w w') (hB : 2 < B) : Tab2 w' := fun j hj => (hb.cell (p := ⟨2, j, none⟩) hB).trans (h j hj)
theorem Tab1.below {w w' : World} {B : Nat} (h : Tab1 w) (hb : Below B w w') (hB : 1 < B) : Tab1 w' := fun j hj => (hb.cell (p := ⟨1, j, none⟩) hB).trans (h j hj)
set_option maxRecDepth 100000 in
set_option maxHeartbeats 400000 in
theorem rblocks_any (r q : List Nat) (A : Option Addr) (c : Nat) (w : World) (hr : r.length = 8) (hra : All 4294967296 r) (hq2 : q.length ≤ 140737488355328) (hqa : All 256 q)
    (hbs : C8 w A q.length q) (ht : Tab2 w) (h2 : 2 < w.heap.size) :
    Calls Tryd.prog 61 #[.agg (c32 r), .slice A q.length c] w fun e w' => e = .returned (.agg (c32 (blocks r q (q.length / 64)))) ∧ Below w.heap.size w w' := by
  have main : (q.length < 64 ∨ ∃ b o, A = some ⟨b, o, none⟩ ∧ b < w.heap.size ∧ Bs w b o q) := by
    rcases Nat.lt_or_ge q.length 64 with h | h
    · exact .inl h
    · exact .inr (hbs.at_ (by omega))
  have HR := Lib.hid hr
  clear hr hbs
  obtain ⟨N, hN⟩ : ∃ N, N = q.length := ⟨_, rfl⟩
  go_enter Tryd.func61, Tryd.ntmps61
  go_wp2
  go_loopw [5] (fun i wr => ∃ k : Nat, k ≤ q.length / 64 ∧ i = .int .i64 (64 * (k : Int)) ∧ Below w.heap.size w wr ∧ Blk wr w.heap.size 56 (c32 (blocks r q k)) ∧ Blk wr (w.heap.size + 1) 56 (c32 (List.replicate 8 0))) (fun i _ => q.length - (intOf i).toNat)
  case atStart => exact ⟨0, by omega, rfl, ((Below.refl _ _).alloc (Nat.le_refl _) _).alloc (by simp) _, (Blk.new w 56 (c32 r)).alloc _, Blk.new_ (w.alloc _) 56 (c32 (List.replicate 8 0)) _ (by simp)⟩
  case round =>
    obtain ⟨k, hk, rfl, hbel, B0, B1⟩ := hrel
    have hRl := Lib.hid (blocks_len HR.out q k)
    have hRa := blocks_all hra q k
    obtain ⟨R, hR⟩ : ∃ R, R = blocks r q k := ⟨_, rfl⟩
    rw [← hR] at hRl hRa B0
    have HRk := Lib.hid hR
    clear hR
    have CB := Lib.hid ((c32_blk R) ▸ B0)
    by_cases hlt : 64 * k + 64 ≤ q.length
    · have hb1 : 64 * (k : Int) + 64 ≤ (q.length : Int) := by omega
      rcases main with hm | ⟨b, o, rfl, hb, hbs⟩
      · omega
      · have hcall : Calls Tryd.prog 65 #[.agg (R.map v32).toArray, .slice (some ⟨b, o, none⟩) q.length c, .int .i64 (64 * (k : Int))] wr (fun e w' => e = .returned (.agg (c32 (turn R ((q.drop (64 * k)).take 64)))) ∧ Below wr.heap.size wr w') := by
          have h := rturn_any R q b o c (64 * k) wr hRl.out hRa (by omega) hq2 hqa (hbs.below hbel hb) (by have := hbel.size; omega) (ht.below hbel h2) (by have := hbel.size; omega)
          rw [show ((64 * k : Nat) : Int) = 64 * (k : Int) by omega] at h
          exact h
        obtain ⟨T, hT⟩ : ∃ T, T = turn R ((q.drop (64 * k)).take 64) := ⟨_, rfl⟩
        have hTl : T.length = 8 := by rw [hT]; exact turn_len _ _
        rw [← hT] at hcall
        have HT := Lib.hid hT; have HTl := Lib.hid hTl
        clear hT hTl
        go_wp2_with (first
          | (refine wpl_load rfl 56 _ rfl w.heap.size 0 rfl 56 [] (R.map v32) [] CB.out rfl _ Tryd.underlying56 rfl (by rw [List.length_map, hRl.out]; kernel_rfl) ?_)
          | (go_at_call 65; (with_reducible refine hcall.mono ?_); rintro e w1 ⟨rfl, hb1⟩)
          | (refine wpl_store rfl 56 _ _ rfl w.heap.size 0 rfl 56 [] (R.map v32) [] (T.map v32) rfl (Blk.below CB.out hb1 B0.lt) rfl (by rw [List.length_map, List.length_map, HTl.out, hRl.out]) (by rw [List.length_map, HTl.out]; kernel_rfl) (one32 T) ?_; intro w2 B2 O2))
        go_roundw
        case rel =>
          refine ⟨k + 1, by omega, by go_num, O2.below (hbel.trans (hb1.mono hbel.size)) (Nat.le_refl _), ?_, (B1.below hb1 B1.lt).only O2 (by omega)⟩
          rw [blocks, ← HRk.out, ← HT.out, c32_blk]
          exact B2
        case measure => simp [intOf]; omega
    · have hge : (q.length : Int) < 64 * (k : Int) + 64 := by omega
      have hB1 := Lib.hid ((c32_blk (List.replicate 8 0)) ▸ B1)
      clear main
      go_wp2_with (first
        | (refine wpl_load rfl 56 _ rfl w.heap.size 0 rfl 56 [] (R.map v32) [] CB.out rfl _ Tryd.underlying56 rfl (by rw [List.length_map, hRl.out]; kernel_rfl) ?_)
        | (refine wpl_store rfl 56 _ _ rfl (w.heap.size + 1) 0 rfl 56 [] ((List.replicate 8 0).map v32) [] (R.map v32) rfl hB1.out rfl (by rw [List.length_map, hRl.out]; rfl) (by rw [List.length_map, hRl.out]; kernel_rfl) (one32 R) ?_; intro w2 B2 O2))
      have e : blocks r q (q.length / 64) = R := by rw [HRk.out, show k = q.length / 64 by omega]
      rw [e]
      exact bodyPost_ret (results_cell_row rfl _ _ (w.heap.size + 1) 56 (c32 R) (0, 0) _ rfl (by rw [c32_blk]; exact B2) Tryd.underlying56 rfl (by rw [show (c32 R).size = 8 by simp [c32, hRl.out]]; kernel_rfl)) rfl ⟨rfl, O2.below hbel (by omega)⟩
end Go.Proofs.YtfedlgcpgfofjaaDoor.Sha
namespace Go.Proofs.YtfedlgcpgfofjaaDoor.Sha
open Go.RowKit Go.Proofs.YtfedlgcpgfofjaaDoorW.PrintWords
set_option linter.unusedVariables false
theorem info_byte : (Tryd.prog.info? 5).map (fun i => (i.zero, i.size, i.bytes)) = some (some (.int .u8 0), 1, 1) := by kernel_rfl
/-- The slice value v shows the bytes p, in a row of the call's own (from block base on). -/
def Own (w : World) (base : Nat) (v : Value) (p : List Nat) : Prop := w.ownsRow base 5 1 v p.length (p.map v8)
theorem encs_toI (p : List Nat) : encs (Value.int .u8) (toI p) = p.map v8 := by
  simp [encs, toI, v8]
theorem Own.nil (w : World) (base : Nat) : Own w base (.slice none 0 0) [] := ⟨by simp, .inl ⟨rfl, rfl⟩⟩
theorem Own.R {w : World} {base : Nat} {v : Value} {p : List Nat} (h : Own w base v p) (ok : Nat → Prop) (hok : ∀ k, v.ownBlock = some k → ok k) : Kd.R (Kd.int .u8) 5 w base ok v (toI p) := by
  refine Kd.R_of_own (enc := Value.int .u8) (h1 := fun _ => rfl) ?_ hok
  rw [toI_len, encs_toI]
  exact h
theorem Own.of_R {w : World} {base : Nat} {ok : Nat → Prop} {v : Value} {p : List Nat} (h : Kd.R (Kd.int .u8) 5 w base ok v (toI p)) : Own w base v p := by
  have := Kd.own_of_R (enc := Value.int .u8) (h1 := fun _ => rfl) h
  rwa [toI_len, encs_toI] at this
/-- As an argument. -/
theorem Own.arg {w : World} {base : Nat} {v : Value} {p : List Nat} (h : Own w base v p) : ∃ A c, v = .slice A p.length c ∧ p.length ≤ c ∧ C8 w A p.length p := by
  obtain ⟨A, c, he, hl, hc⟩ := Kd.R_reads (h.R (fun _ => True) (fun _ _ => trivial))
  rw [toI_len] at he hl hc
  exact ⟨A, c, he, hl, hc⟩
theorem Own.lt {w : World} {base : Nat} {v : Value} {p : List Nat} (h : Own w base v p) : ∀ k, v.ownBlock = some k → base ≤ k ∧ k < w.heap.size := fun k hk => ⟨own_base h k hk, own_lt h k hk⟩
theorem Own.below {w w' : World} {base : Nat} {v : Value} {p : List Nat} (h : Own w base v p) (hb : Below w.heap.size w w') : Own w' base v p :=
  own_move h (fun k hk => hb.block k (own_lt h k hk))
theorem Own.ne {w : World} {base : Nat} {v : Value} {p : List Nat} (h : Own w base v p) {g t : Nat} {cs : Array Value} (hB : Blk w g t cs) (hne : 5 ≠ t) : v.ownBlock ≠ some g := by
  intro he
  obtain ⟨cells, hc⟩ := own_typed h g he
  unfold Blk at hB
  rw [hc] at hB
  injection hB with hB
  injection hB with _ ht
  exact hne ht
theorem Own.only {w w' : World} {base : Nat} {v : Value} {p : List Nat} {g : Nat} (h : Own w base v p) (O : Only g w w') (hne : v.ownBlock ≠ some g) : Own w' base v p :=
  own_move h (fun k hk => O.block k (fun e => hne (e ▸ hk)))
theorem Own.alloc {w : World} {base : Nat} {v : Value} {p : List Nat} (h : Own w base v p) (o : Obj) : Own (w.alloc o) base v p :=
  own_move h (fun k hk => Below.heap_alloc w o k (own_lt h k hk))
theorem Own.of_Blk {w : World} {g base : Nat} {p : List Nat} (h : Blk w g 5 (c8 p)) (hb : base ≤ g) (hl : p.length ≤ 9223372036854775807) : Own w base (.slice (some ⟨g, 0, none⟩) p.length p.length) p := by
  refine ⟨by rw [List.length_map, Nat.mul_one], .inr ⟨g, p.length, c8 p, rfl, hb, h, Nat.le_refl _, by unfold maxLen; omega, ?_, ?_⟩⟩
  · simp [c8]
  · simp only [Nat.mul_one]
    exact List.take_of_length_le (by simp [c8])
theorem Blk.grown {w w' : World} {g t : Nat} {cs : Array Value} {row : Option Nat} (h : Blk w g t cs) (hb : w.grownBy w' row) (hg : row ≠ some g) : Blk w' g t cs := (hb.block g h.lt (fun e => hg e.symm)).trans h
theorem v8_one (p : List Nat) : ∀ u ∈ p.map v8, u.oneCell' = true := by
  intro u hu
  obtain ⟨x, _, rfl⟩ := List.mem_map.1 hu
  rfl
section
variable {P : Program} (w : World)
theorem run_append_nil_ (base : Nat) (t ty : TypeId) (i : TypeInfo) (ht : P.underlying t = some (.slice 5)) (hi : P.info? 5 = some i)
    (v : Value) (p : List Nat) (hown : Own w base v p) (c : Nat) : (Builtin.append_ #[t, t] ty #[v, .slice none 0 c]).run P w = .ok v w := by
  rcases hown.2 with ⟨rfl, _⟩ | ⟨g, cap, cur, rfl, _, _, hnc, _⟩
  · simp [Builtin.append_, run_underlying ht, sizeOf, typeInfo, hi, Builtin.lenOf, Builtin.firstCells]
  · simp [Builtin.append_, run_underlying ht, sizeOf, typeInfo, hi, Builtin.lenOf, Builtin.firstCells, hnc, storeCells]
theorem run_append_ (base : Nat) (t ty : TypeId) (hinfo : (P.info? 5).map (fun i => (i.zero, i.size, i.bytes)) = some (some (.int .u8 0), 1, 1)) (ht : P.underlying t = some (.slice 5))
    (v : Value) (p : List Nat) (hown : Own w base v p) (A : Option Addr) (c : Nat) (q : List Nat) (hr : C8 w A q.length q)
    (hbytes : p.length + q.length ≤ 140737488355328) (hbase : base ≤ w.heap.size) :
    ∃ v' w', (Builtin.append_ #[t, t] ty #[v, .slice A q.length c]).run P w = .ok v' w' ∧ Own w' base v' (p ++ q) ∧ w.grownBy w' v.ownBlock ∧ (v'.ownBlock = v.ownBlock ∨ v'.ownBlock = some w.heap.size) := by
  obtain ⟨i, hi, hz0, hz1, hz2⟩ := info_parts hinfo
  have hcells : ∀ ad, A = some ad → ∀ j u, (q.map v8)[j]? = some u → w.cell? (ad.add j) = some u := by
    intro ad hA j u hu
    have hj : j < q.length := by
      have := (List.getElem?_eq_some_iff.1 hu).1
      rwa [List.length_map] at this
    obtain ⟨b, o, e, _, hbs⟩ := hr.at_ (by omega)
    rw [hA] at e
    injection e with e
    subst e
    rw [Addr.add_mid, hbs j hj]
    rw [List.getElem?_map, List.getElem?_eq_getElem hj] at hu
    rw [List.getD_eq_getElem?_getD, List.getElem?_eq_getElem hj]
    exact hu
  rcases A with _ | ad
  · have hm : q = [] := by
      rcases Nat.eq_zero_or_pos q.length with h0 | h0
      · exact List.eq_nil_of_length_eq_zero h0
      · obtain ⟨_, _, e, _⟩ := hr.at_ h0
        cases e
    subst hm
    exact ⟨v, w, run_append_nil_ w base t ty i ht hi v p hown c, by simpa using hown, World.grownBy.refl w _, .inl rfl⟩
  · obtain ⟨v', w', hrun, h2, h3, _, h5⟩ := run_append_own_at (P := P) w base t ty 5 i (.int .u8 0) 1 1 ht hi hz0 hz1 hz2 rfl (by omega) v p.length (p.map v8) hown ad q.length c (q.map v8) (by rw [List.length_map, Nat.mul_one]) (hcells ad rfl) (v8_one q) (by unfold maxLen; omega) (by omega) hbase
    refine ⟨v', w', hrun, ?_, h3, h5⟩
    unfold Own
    rw [List.length_append, List.map_append]
    exact h2
variable {w} {ops : Array Oper} {rest : List Oper} {o : Oper} {a : Act} {Q : Exit → Act → World → Prop}
theorem wpl_append (hgd : o.guard = none) (s x : Operand) (t : TypeId) (ho : o.op = .call { callee := .builtin .append, args := #[s, x], argTypes := #[t, t] })
    (hinfo : (P.info? 5).map (fun i => (i.zero, i.size, i.bytes)) = some (some (.int .u8 0), 1, 1)) (ht : P.underlying t = some (.slice 5)) (base : Nat)
    (v : Value) (p : List Nat) (hs : a.eval s = v) (hown : Own w base v p) (A : Option Addr) (c n : Nat) (q : List Nat) (hx : a.eval x = .slice A n c) (hn : n = q.length) (hr : C8 w A q.length q)
    (hbytes : p.length + q.length ≤ 140737488355328) (hbase : base ≤ w.heap.size)
    (h : ∀ v' w', Own w' base v' (p ++ q) → w.grownBy w' v.ownBlock → (v'.ownBlock = v.ownBlock ∨ v'.ownBlock = some w.heap.size) → wpList P ops Q rest (a.put o.dst v') w') : wpList P ops Q (o :: rest) a w :=
  wpList_plain hgd fun _ hK => by
    subst hn
    obtain ⟨v', w', hrun, h2, h3, h4⟩ := run_append_ (P := P) w base t o.type hinfo ht v p hown A c q hr hbytes hbase
    unfold Oper.wp execOp
    simp only [ho, resolve, invoke, builtin, Sem.run_bind, Sem.run_pure, Result.andThen_ok, List.map_toArray, List.map_cons, List.map_nil, hs, hx, hrun]
    exact hK _ _ (h v' w' h2 h3 h4)
/-- One byte, just built. -/
theorem C8.one (w : World) (x : Nat) (n : Nat) (hn : w.heap.size = n) : C8 (w.alloc (.cells #[.int .u8 (x : Int)] 5)) (some ⟨n, 0, none⟩) 1 [x] := by
  subst hn
  refine C8.of_Bs (p := [x]) (fun j hj => ?_) (by simp)
  obtain rfl : j = 0 := by simpa using hj
  rw [(Blk.new w 5 #[.int .u8 (x : Int)]).cell]
  rfl
theorem C8.one_ (w : World) (x : Nat) (xi : Int) (hx : xi = (x : Int)) (n : Nat) (hn : w.heap.size = n) : C8 (w.alloc (.cells #[.int .u8 xi] 5)) (some ⟨n, 0, none⟩) [x].length [x] := by
  subst hx
  exact C8.one w x n hn
end
end Go.Proofs.YtfedlgcpgfofjaaDoor.Sha
namespace Go.Proofs.YtfedlgcpgfofjaaDoor.Sha
open Go.RowKit Go.Proofs.YtfedlgcpgfofjaaDoorW.PrintWords
set_option linter.unusedVariables false
theorem bytesW_at (x j : Nat) (h : j < 4) : (bytesW x)[j]? = some (x / 2 ^ (24 - 8 * j) % 256) := by
  match j, h with
  | 0, _ => rfl
  | 1, _ => rfl
  | 2, _ => rfl
  | 3, _ => simp [bytesW]
theorem bytesW_take (x j : Nat) (h : j < 4) : (bytesW x).take (j + 1) = (bytesW x).take j ++ [x / 2 ^ (24 - 8 * j) % 256] := by
  have h1 := bytesW_at x j h
  obtain ⟨hj, e⟩ := List.getElem?_eq_some_iff.1 h1
  rw [List.take_succ_eq_append_getElem hj, e]
theorem bytesR_take (r : List Nat) (k : Nat) (h : k < r.length) : bytesR (r.take (k + 1)) = bytesR (r.take k) ++ bytesW (r.getD k 0) := by
  unfold bytesR
  rw [List.take_succ_eq_append_getElem h, List.flatMap_append, List.getD_eq_getElem?_getD, List.getElem?_eq_getElem h]
  simp
theorem bytesR_len : ∀ r : List Nat, (bytesR r).length = 4 * r.length
  | [] => rfl
  | x :: r => by
    have := bytesR_len r
    unfold bytesR at this ⊢
    rw [List.flatMap_cons, List.length_append, this, List.length_cons]
    show 4 + _ = _
    omega
theorem bytesW_all (x : Nat) : All 256 (bytesW x) := by
  intro y hy
  simp only [bytesW, List.mem_cons, List.not_mem_nil, or_false] at hy
  rcases hy with h | h | h | h <;> rw [h] <;> exact Nat.mod_lt _ (by decide)
theorem bytesR_all (r : List Nat) : All 256 (bytesR r) := by
  intro y hy
  obtain ⟨x, _, h⟩ := List.mem_flatMap.1 hy
  exact bytesW_all x y h
set_option maxRecDepth 100000 in
set_option maxHeartbeats 400000 in
theorem rwords_any (r : List Nat) (w : World) (hr : r.length = 8) (hra : All 4294967296 r) :
    Calls Tryd.prog 60 #[.agg (c32 r)] w fun e w' => ∃ v, e = .returned v ∧ Own w' w.heap.size v (bytesR r) ∧ Below w.heap.size w w' := by
  have HR := Lib.hid hr
  clear hr
  go_enter Tryd.func60, Tryd.ntmps60
  go_wp2
  go_loopw [3, 4] (fun v i wr => ∃ k : Nat, k ≤ 8 ∧ i = .int .i64 (k : Int) ∧ Below w.heap.size w wr ∧ Blk wr w.heap.size 56 (c32 r) ∧ Own wr w.heap.size v (bytesR (r.take k))) (fun _ i _ => 8 - (intOf i).toNat)
  case atStart => exact ⟨0, by omega, rfl, (Below.refl _ _).alloc (Nat.le_refl _) _, Blk.new w 56 (c32 r), Own.nil _ _⟩
  case round =>
    obtain ⟨k, hk, rfl, hbel, B0, O⟩ := hrel
    by_cases hlt : k < 8
    · have dk : decide ((k : Int) < 8) = true := decide_eq_true (by omega)
      obtain ⟨x, ex, lx⟩ : ∃ x : Nat, x = r.getD k 0 ∧ x < 4294967296 := ⟨_, rfl, hra.getD (by decide) k⟩
      have EX := Lib.hid ex
      have ak : (0 : Int) ≤ (k : Int) := by omega
      have bk : (k : Int) < 8 := by omega
      clear ex
      go_wp2
      obtain ⟨wo, rfl⟩ : ∃ wo : World, wo = wr := ⟨_, rfl⟩
      go_loopw [3, 5] (fun v i wr => ∃ j : Nat, j ≤ 4 ∧ i = .int .i64 (j : Int) ∧ Below w.heap.size w wr ∧ Blk wr w.heap.size 56 (c32 r) ∧ Own wr w.heap.size v (bytesR (r.take k) ++ (bytesW x).take j)) (fun _ i _ => 4 - (intOf i).toNat)
      case atStart => exact ⟨0, by omega, rfl, hbel, B0, by rw [List.take_zero, List.append_nil]; exact O⟩
      case round =>
        clear hbel B0 O
        obtain ⟨j, hj4, rfl, hbel, B0, O⟩ := hrel
        by_cases hj : j < 4
        · have gx : wr.cell? ⟨w.heap.size, k, none⟩ = some (.int .u32 (x : Int)) := by rw [B0.w32 k (by rw [HR.out]; omega), EX.out]
          have dj : decide ((j : Int) < 4) = true := decide_eq_true (by omega)
          have bj : (j : Int) < 4 := by omega
          have hB0 := Lib.hid B0
          have hO := Lib.hid O
          have hl : (bytesR (r.take k) ++ (bytesW x).take j).length ≤ 36 := by
            rw [List.length_append, bytesR_len, List.length_take, List.length_take, HR.out, show (bytesW x).length = 4 from rfl]; omega
          have hs := hbel.size
          have hv : ((x : Int) / 2 ^ (24 - 8 * j) % 256) = ((x / 2 ^ (24 - 8 * j) % 256 : Nat) : Int) := by simp
          have HV := Lib.hid hv
          clear hv
          go_wp2_with (at_builtin; go_loud (refine wpl_append rfl _ _ _ rfl info_byte Tryd.underlying22 w.heap.size u3 _ rfl (hO.out.alloc _) _ _ _ [x / 2 ^ (24 - 8 * j) % 256] rfl rfl (C8.one_ _ _ _ HV.out _ rfl) (by rw [List.length_singleton]; omega) (by simp; omega) ?_); intro v' w1 O1 G1 _)
          go_roundw
          case rel =>
            refine ⟨j + 1, by omega, by go_num, (hbel.alloc hs _).grown G1 (by simp; omega) (fun k hk => (O.lt k hk).1), (hB0.out.alloc _).grown G1 (Own.ne hO.out hB0.out (by decide)), ?_⟩
            rw [bytesW_take x j hj, ← List.append_assoc]
            exact O1
          case measure => simp [intOf]; omega
        · have dj : decide ((j : Int) < 4) = false := decide_eq_false (by omega)
          go_wp2
          go_roundw
          case rel =>
            refine ⟨k + 1, by omega, by go_num, hbel, B0, ?_⟩
            rw [bytesR_take r k (by rw [HR.out]; omega), ← EX.out]
            rw [show j = 4 by omega] at O
            exact O
          case measure => simp [intOf]; omega
    · have dk : decide ((k : Int) < 8) = false := decide_eq_false (by omega)
      go_wp2
      go_ret
      refine ⟨_, rfl, ?_, hbel⟩
      rw [List.take_of_length_le (by rw [HR.out]; omega)] at O
      exact O
end Go.Proofs.YtfedlgcpgfofjaaDoor.Sha
