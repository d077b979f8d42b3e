/-
  SHA-256: the sums of the program and of the reference, walked; bytes compared. (The digest's own texts, turned to this seat by extract.py and retype.py.)
-/
import Derived.Test.YtaeipffenlkjpaaDoorProg
import Derived.WalkKit
import Derived.KernelRfl
import Derived.Lib.Hide
import Derived.LoopTactic
import Derived.Deep.QuietTactic
import Derived.BigQuiet
import Derived.Deep.RegionHeld3
import Derived.Deep.DrawnRows
import Derived.Laws.BitsLemmas
import Derived.Laws.Rows
import Derived.Outline
import Derived.IntWalk
import Derived.Below
import Derived.StillTailTactics
import Derived.Test.YtaeipffenlkjpaaDoorWWords
import Derived.Deep.MidRow
import Derived.Laws.CopyOwn
import Derived.OwnWalk
import Derived.Maps.AppendAt
import Derived.Deep.AppendLies
import Derived.RegionTactic
import Derived.Test.YtaeipffenlkjpaaDoorCIsCode
import Derived.Test.YtaeipffenlkjpaaDoorCForeign
import Derived.Test.YtaeipffenlkjpaaDoorPAllx
import Derived.Test.YtaeipffenlkjpaaDoorPlain
import Derived.Test.YtaeipffenlkjpaaDoorRows
import Derived.ChangeKeysEq
import Derived.Deep.RegionLaw
import Derived.Deep.RegionWith
import Derived.Lib.LaidTab
import Derived.Lib.LaidU8
import Derived.Lib.SlBytesConst
namespace Go.Proofs.YtaeipffenlkjpaaDoor.Sha
open Go.RowKit Go.Proofs.YtaeipffenlkjpaaDoorW.PrintWords Go.Proofs.YtaeipffenlkjpaaDoor.PAll Go.Proofs.YtaeipffenlkjpaaDoor.Plain
set_option linter.unusedVariables false
set_option linter.unusedSimpArgs false
/-- a right turn of a word -/
def rotr (x n : Nat) : Nat := x / 2 ^ n ||| x * 2 ^ (32 - n) % 4294967296
def sg0 (x : Nat) : Nat := rotr x 7 ^^^ rotr x 18 ^^^ x / 8
def sg1 (x : Nat) : Nat := rotr x 17 ^^^ rotr x 19 ^^^ x / 1024
def bg0 (x : Nat) : Nat := rotr x 2 ^^^ rotr x 13 ^^^ rotr x 22
def bg1 (x : Nat) : Nat := rotr x 6 ^^^ rotr x 11 ^^^ rotr x 25
def cho (e f g : Nat) : Nat := (e &&& f) ^^^ ((4294967295 - e) &&& g)
def maj (a b c : Nat) : Nat := (a &&& b) ^^^ (a &&& c) ^^^ (b &&& c)
def roots : List Nat := [
  0x428a2f98, 0x71374491, 0xb5c0fbcf, 0xe9b5dba5, 0x3956c25b, 0x59f111f1, 0x923f82a4, 0xab1c5ed5,
  0xd807aa98, 0x12835b01, 0x243185be, 0x550c7dc3, 0x72be5d74, 0x80deb1fe, 0x9bdc06a7, 0xc19bf174,
  0xe49b69c1, 0xefbe4786, 0x0fc19dc6, 0x240ca1cc, 0x2de92c6f, 0x4a7484aa, 0x5cb0a9dc, 0x76f988da,
  0x983e5152, 0xa831c66d, 0xb00327c8, 0xbf597fc7, 0xc6e00bf3, 0xd5a79147, 0x06ca6351, 0x14292967,
  0x27b70a85, 0x2e1b2138, 0x4d2c6dfc, 0x53380d13, 0x650a7354, 0x766a0abb, 0x81c2c92e, 0x92722c85,
  0xa2bfe8a1, 0xa81a664b, 0xc24b8b70, 0xc76c51a3, 0xd192e819, 0xd6990624, 0xf40e3585, 0x106aa070,
  0x19a4c116, 0x1e376c08, 0x2748774c, 0x34b0bcb5, 0x391c0cb3, 0x4ed8aa4a, 0x5b9cca4f, 0x682e6ff3,
  0x748f82ee, 0x78a5636f, 0x84c87814, 0x8cc70208, 0x90befffa, 0xa4506ceb, 0xbef9a3f7, 0xc67178f2]
def first : List Nat := [0x6a09e667, 0xbb67ae85, 0x3c6ef372, 0xa54ff53a, 0x510e527f, 0x9b05688c, 0x1f83d9ab, 0x5be0cd19]
def word4 (p : List Nat) (i : Nat) : Nat := ((p.getD (4 * i) 0 * 256 + p.getD (4 * i + 1) 0) * 256 + p.getD (4 * i + 2) 0) * 256 + p.getD (4 * i + 3) 0
def w16 (p : List Nat) : List Nat := (List.range 16).map (word4 p)
def nextW (l : List Nat) : Nat := (l.getD (l.length - 16) 0 + sg0 (l.getD (l.length - 15) 0) + l.getD (l.length - 7) 0 + sg1 (l.getD (l.length - 2) 0)) % 4294967296
def sched (p : List Nat) : Nat → List Nat
  | 0 => w16 p
  | n + 1 => sched p n ++ [nextW (sched p n)]
def stepU (r : List Nat) (k w : Nat) : Nat := (r.getD 7 0 + bg1 (r.getD 4 0) + cho (r.getD 4 0) (r.getD 5 0) (r.getD 6 0) + k + w) % 4294967296
def stepV (r : List Nat) : Nat := (bg0 (r.getD 0 0) + maj (r.getD 0 0) (r.getD 1 0) (r.getD 2 0)) % 4294967296
def stepR (r : List Nat) (k w : Nat) : List Nat := [(stepU r k w + stepV r) % 4294967296, r.getD 0 0, r.getD 1 0, r.getD 2 0, (r.getD 3 0 + stepU r k w) % 4294967296, r.getD 4 0, r.getD 5 0, r.getD 6 0]
def regs (r ws : List Nat) : Nat → List Nat
  | 0 => r
  | t + 1 => stepR (regs r ws t) (roots.getD t 0) (ws.getD t 0)
def addR (r s : List Nat) : List Nat := (List.range 8).map fun i => (r.getD i 0 + s.getD i 0) % 4294967296
def turn (r p : List Nat) : List Nat := addR r (regs r (sched p 48) 64)
def blocks (r : List Nat) (p : List Nat) : Nat → List Nat
  | 0 => r
  | n + 1 => turn (blocks r p n) ((p.drop (64 * n)).take 64)
def bytesW (w : Nat) : List Nat := [w / 16777216 % 256, w / 65536 % 256, w / 256 % 256, w % 256]
def bytesR (r : List Nat) : List Nat := r.flatMap bytesW
def eight (n : Nat) : List Nat := (List.range 8).map fun i => n / 2 ^ (8 * (7 - i)) % 256
def padded (p : List Nat) (n : Nat) : List Nat := p ++ [128] ++ List.replicate ((119 - p.length % 64) % 64) 0 ++ eight (n * 8)
def sum (p : List Nat) : List Nat := bytesR (blocks first (padded p p.length) ((padded p p.length).length / 64))
theorem rotr_lt {x : Nat} (n : Nat) (hx : x < 4294967296) : rotr x n < 4294967296 := by
  unfold rotr
  exact Nat.or_lt_two_pow (n := 32) (Nat.lt_of_le_of_lt (Nat.div_le_self _ _) hx) (Nat.mod_lt _ (by decide))
theorem word4_lt {p : List Nat} (hp : All 256 p) (i : Nat) : word4 p i < 4294967296 := by
  unfold word4
  have := hp.getD (by decide) (4 * i); have := hp.getD (by decide) (4 * i + 1); have := hp.getD (by decide) (4 * i + 2); have := hp.getD (by decide) (4 * i + 3)
  omega
theorem w16_len (p : List Nat) : (w16 p).length = 16 := by simp [w16]
theorem w16_all {p : List Nat} (hp : All 256 p) : All 4294967296 (w16 p) := by
  intro x hx
  obtain ⟨i, _, rfl⟩ := List.mem_map.1 hx
  exact word4_lt hp i
theorem nextW_lt (l : List Nat) : nextW l < 4294967296 := Nat.mod_lt _ (by decide)
theorem sched_len (p : List Nat) : ∀ n, (sched p n).length = 16 + n
  | 0 => w16_len p
  | n + 1 => by rw [sched, List.length_append, sched_len p n]; rfl
theorem sched_all {p : List Nat} (hp : All 256 p) : ∀ n, All 4294967296 (sched p n)
  | 0 => w16_all hp
  | n + 1 => (sched_all hp n).app (All.one (nextW_lt _))
theorem sched_pre (p : List Nat) (n : Nat) : ∀ d, sched p n = (sched p (n + d)).take (16 + n)
  | 0 => by rw [Nat.add_zero, List.take_of_length_le (by rw [sched_len]; omega)]
  | d + 1 => by
    rw [← Nat.add_assoc, sched, List.take_append_of_le_length (by rw [sched_len]; omega)]
    exact sched_pre p n d
/-- The 64 words of a block. -/
def S64 (p : List Nat) : List Nat := sched p 48
theorem S64_len (p : List Nat) : (S64 p).length = 64 := sched_len p 48
theorem S64_all {p : List Nat} (hp : All 256 p) : All 4294967296 (S64 p) := sched_all hp 48
theorem S64_low (p : List Nat) (t : Nat) (h : t < 16) : (S64 p).getD t 0 = word4 p t := by
  rw [← getD_take _ 16 t h]
  have e := sched_pre p 0 48
  rw [Nat.zero_add, Nat.add_zero] at e
  show ((sched p 48).take 16).getD t 0 = _
  rw [← e]
  simp [sched, w16, List.getD_eq_getElem?_getD, h]
theorem S64_high (p : List Nat) (t : Nat) (h0 : 16 ≤ t) (h : t < 64) : (S64 p).getD t 0 = ((S64 p).getD (t - 16) 0 + sg0 ((S64 p).getD (t - 15) 0) + (S64 p).getD (t - 7) 0 + sg1 ((S64 p).getD (t - 2) 0)) % 4294967296 := by
  have e1 := sched_pre p (t - 16) (48 - (t - 16))
  have e2 := sched_pre p (t - 16 + 1) (48 - (t - 16 + 1))
  rw [show t - 16 + (48 - (t - 16)) = 48 by omega, show 16 + (t - 16) = t by omega] at e1
  rw [show t - 16 + 1 + (48 - (t - 16 + 1)) = 48 by omega, show 16 + (t - 16 + 1) = t + 1 by omega] at e2
  have hl : (sched p (t - 16)).length = t := by rw [sched_len]; omega
  have h1 : (sched p (t - 16 + 1)).getD t 0 = nextW (sched p (t - 16)) := by
    rw [sched, List.getD_eq_getElem?_getD, List.getElem?_append_right (by omega), hl, Nat.sub_self]
    rfl
  rw [e2, getD_take _ _ _ (by omega)] at h1
  unfold S64
  rw [h1]
  unfold nextW
  rw [hl, e1, getD_take _ _ _ (by omega), getD_take _ _ _ (by omega), getD_take _ _ _ (by omega), getD_take _ _ _ (by omega)]
theorem stepR_all {r : List Nat} (hr : All 4294967296 r) (k w : Nat) : All 4294967296 (stepR r k w) := by
  intro x hx
  simp only [stepR, List.mem_cons, List.not_mem_nil, or_false] at hx
  rcases hx with h | h | h | h | h | h | h | h <;> rw [h] <;> first | exact Nat.mod_lt _ (by decide) | exact hr.getD (by decide) _
theorem regs_all {r ws : List Nat} (hr : All 4294967296 r) : ∀ t, All 4294967296 (regs r ws t)
  | 0 => hr
  | t + 1 => stepR_all (regs_all hr t) _ _
theorem regs_len {r ws : List Nat} (hr : r.length = 8) : ∀ t, (regs r ws t).length = 8
  | 0 => hr
  | _ + 1 => rfl
theorem addR_len (r s : List Nat) : (addR r s).length = 8 := by simp [addR]
theorem addR_all (r s : List Nat) : All 4294967296 (addR r s) := by
  intro x hx
  obtain ⟨i, _, rfl⟩ := List.mem_map.1 hx
  exact Nat.mod_lt _ (by decide)
theorem turn_len (r p : List Nat) : (turn r p).length = 8 := addR_len _ _
theorem turn_all (r p : List Nat) : All 4294967296 (turn r p) := addR_all _ _
theorem blocks_len {r : List Nat} (hr : r.length = 8) (p : List Nat) : ∀ n, (blocks r p n).length = 8
  | 0 => hr
  | n + 1 => turn_len _ _
theorem blocks_all {r : List Nat} (hr : All 4294967296 r) (p : List Nat) : ∀ n, All 4294967296 (blocks r p n)
  | 0 => hr
  | n + 1 => turn_all _ _
theorem u32_wrap (n : Nat) (h : n < 4294967296) : IntKind.u32.wrap (n : Int) = (n : Int) := by rw [IntKind.wrap_u32]; omega
theorem u32_ofInt (a : Nat) (ha : a < 4294967296) : (BitVec.ofInt 32 (a : Int)).toNat = a := by
  rw [BitVec.ofInt_natCast, BitVec.toNat_ofNat]; exact Nat.mod_eq_of_lt (by omega)
theorem u32_and (a b : Nat) (ha : a < 4294967296) (hb : b < 4294967296) : bits .and .u32 (a : Int) (b : Int) = ((a &&& b : Nat) : Int) := by
  have hx : a &&& b < 4294967296 := Nat.and_lt_two_pow (n := 32) _ hb
  show IntKind.u32.wrap ((BitVec.ofInt 32 (a : Int) &&& BitVec.ofInt 32 (b : Int)).toNat : Int) = _
  rw [BitVec.toNat_and, u32_ofInt a ha, u32_ofInt b hb, u32_wrap _ hx]
theorem u32_or (a b : Nat) (ha : a < 4294967296) (hb : b < 4294967296) : bits .or .u32 (a : Int) (b : Int) = ((a ||| b : Nat) : Int) := by
  have hx : a ||| b < 4294967296 := Nat.or_lt_two_pow (n := 32) ha hb
  show IntKind.u32.wrap ((BitVec.ofInt 32 (a : Int) ||| BitVec.ofInt 32 (b : Int)).toNat : Int) = _
  rw [BitVec.toNat_or, u32_ofInt a ha, u32_ofInt b hb, u32_wrap _ hx]
theorem u32_xor (a b : Nat) (ha : a < 4294967296) (hb : b < 4294967296) : bits .xor .u32 (a : Int) (b : Int) = ((a ^^^ b : Nat) : Int) := by
  have hx : a ^^^ b < 4294967296 := Nat.xor_lt_two_pow (n := 32) ha hb
  show IntKind.u32.wrap ((BitVec.ofInt 32 (a : Int) ^^^ BitVec.ofInt 32 (b : Int)).toNat : Int) = _
  rw [BitVec.toNat_xor, u32_ofInt a ha, u32_ofInt b hb, u32_wrap _ hx]
theorem round_any (x n : Nat) (w : World) (hx : x < 4294967296) (h0 : 1 ≤ n) (hn : n ≤ 31) :
    Calls Tryd.prog 38 #[.int .u32 x, .int .u64 n] w fun e w' => e = .returned (.int .u32 (rotr x n)) ∧ w = w' := by
  have h1 : (0 : Int) ≤ n := by omega
  have h2 : (n : Int) ≤ 31 := by omega
  have h3 : (0 : Int) ≤ x := by omega
  have h4 : (x : Int) < 4294967296 := by omega
  go_enter Tryd.func38, Tryd.ntmps38
  go_wp2
  go_ret
  refine ⟨?_, rfl⟩
  show Ending.returned (Value.int .u32 (bits .or .u32 ((x : Int) / 2 ^ n) ((x : Int) * 2 ^ (32 - n) % 4294967296))) = _
  rw [show ((x : Int) / 2 ^ n) = ((x / 2 ^ n : Nat) : Int) by simp, show ((x : Int) * 2 ^ (32 - n) % 4294967296) = ((x * 2 ^ (32 - n) % 4294967296 : Nat) : Int) by simp,
    u32_or _ _ (Nat.lt_of_le_of_lt (Nat.div_le_self _ _) hx) (Nat.mod_lt _ (by decide))]
  rfl
theorem round_2 (x : Nat) (w : World) (hx : x < 4294967296) : Calls Tryd.prog 38 #[.int .u32 x, .int .u64 2] w fun e w' => e = .returned (.int .u32 (rotr x 2)) ∧ w = w' := round_any x 2 w hx (by decide) (by decide)
theorem round_6 (x : Nat) (w : World) (hx : x < 4294967296) : Calls Tryd.prog 38 #[.int .u32 x, .int .u64 6] w fun e w' => e = .returned (.int .u32 (rotr x 6)) ∧ w = w' := round_any x 6 w hx (by decide) (by decide)
theorem round_7 (x : Nat) (w : World) (hx : x < 4294967296) : Calls Tryd.prog 38 #[.int .u32 x, .int .u64 7] w fun e w' => e = .returned (.int .u32 (rotr x 7)) ∧ w = w' := round_any x 7 w hx (by decide) (by decide)
theorem round_11 (x : Nat) (w : World) (hx : x < 4294967296) : Calls Tryd.prog 38 #[.int .u32 x, .int .u64 11] w fun e w' => e = .returned (.int .u32 (rotr x 11)) ∧ w = w' := round_any x 11 w hx (by decide) (by decide)
theorem round_13 (x : Nat) (w : World) (hx : x < 4294967296) : Calls Tryd.prog 38 #[.int .u32 x, .int .u64 13] w fun e w' => e = .returned (.int .u32 (rotr x 13)) ∧ w = w' := round_any x 13 w hx (by decide) (by decide)
theorem round_17 (x : Nat) (w : World) (hx : x < 4294967296) : Calls Tryd.prog 38 #[.int .u32 x, .int .u64 17] w fun e w' => e = .returned (.int .u32 (rotr x 17)) ∧ w = w' := round_any x 17 w hx (by decide) (by decide)
theorem round_18 (x : Nat) (w : World) (hx : x < 4294967296) : Calls Tryd.prog 38 #[.int .u32 x, .int .u64 18] w fun e w' => e = .returned (.int .u32 (rotr x 18)) ∧ w = w' := round_any x 18 w hx (by decide) (by decide)
theorem round_19 (x : Nat) (w : World) (hx : x < 4294967296) : Calls Tryd.prog 38 #[.int .u32 x, .int .u64 19] w fun e w' => e = .returned (.int .u32 (rotr x 19)) ∧ w = w' := round_any x 19 w hx (by decide) (by decide)
theorem round_22 (x : Nat) (w : World) (hx : x < 4294967296) : Calls Tryd.prog 38 #[.int .u32 x, .int .u64 22] w fun e w' => e = .returned (.int .u32 (rotr x 22)) ∧ w = w' := round_any x 22 w hx (by decide) (by decide)
theorem round_25 (x : Nat) (w : World) (hx : x < 4294967296) : Calls Tryd.prog 38 #[.int .u32 x, .int .u64 25] w fun e w' => e = .returned (.int .u32 (rotr x 25)) ∧ w = w' := round_any x 25 w hx (by decide) (by decide)
/-- Words, bytes as cells. -/
def v32 (x : Nat) : Value := .int .u32 (x : Int)
def c32 (l : List Nat) : Array Value := (l.map v32).toArray
/-- The tables. -/
def Tab1 (w : World) : Prop := ∀ j, j < 64 → w.cell? ⟨1, j, none⟩ = some (v32 (roots.getD j 0))
theorem c32_at (l : List Nat) (i : Nat) (h : i < l.length) : (c32 l)[i]? = some (v32 (l.getD i 0)) := by
  simp [c32, List.getD_eq_getElem?_getD, List.getElem?_eq_getElem h]
theorem Blk.w32 {w : World} {g t : Nat} {l : List Nat} (h : Blk w g t (c32 l)) (i : Nat) (hi : i < l.length) : w.cell? ⟨g, i, none⟩ = some (.int .u32 (l.getD i 0 : Nat)) := (h.cell i).trans (c32_at l i hi)
theorem set_list (enc : Nat → Value) (l : List Nat) (i x : Nat) : ((l.map enc).toArray).setIfInBounds i (enc x) = ((l.set i x).map enc).toArray := by
  simp [List.map_set]
theorem c32_push (l : List Nat) (m i x : Nat) (hi : l.length = i) : (c32 (l ++ List.replicate (m + 1) 0)).setIfInBounds i (v32 x) = c32 (l ++ [x] ++ List.replicate m 0) := by
  subst hi
  unfold c32
  rw [set_list, List.replicate_succ, List.set_append_right _ _ (Nat.le_refl _), Nat.sub_self, List.set_cons_zero, List.append_assoc]
  rfl
theorem w16_at (p : List Nat) (k : Nat) (h : k < 16) : (w16 p).getD k 0 = word4 p k := by
  simp [w16, List.getD_eq_getElem?_getD, h]
theorem or_add (a b i : Nat) (h : b < 2 ^ i) : a * 2 ^ i ||| b = a * 2 ^ i + b := by
  rw [Nat.mul_comm, Nat.two_pow_add_eq_or_of_lt h]
theorem join4 (a b c d : Nat) (ha : a < 256) (hb : b < 256) (hc : c < 256) (hd : d < 256) :
    bits .or .u32 (bits .or .u32 (bits .or .u32 ((a : Int) * 16777216) ((b : Int) * 65536)) ((c : Int) * 256)) (d : Int) = (((((a * 256 + b) * 256 + c) * 256 + d : Nat)) : Int) := by
  rw [show (a : Int) * 16777216 = ((a * 2 ^ 24 : Nat) : Int) by simp, show (b : Int) * 65536 = ((b * 65536 : Nat) : Int) by simp, show (c : Int) * 256 = ((c * 256 : Nat) : Int) by simp,
    u32_or _ _ (by omega) (by omega), or_add a (b * 65536) 24 (by omega), show a * 2 ^ 24 + b * 65536 = (a * 256 + b) * 2 ^ 16 by omega,
    u32_or _ _ (by omega) (by omega), or_add _ (c * 256) 16 (by omega), show (a * 256 + b) * 2 ^ 16 + c * 256 = ((a * 256 + b) * 256 + c) * 2 ^ 8 by omega,
    u32_or _ _ (by omega) (by omega), or_add _ d 8 (by omega)]
theorem sg0_int (x : Nat) (h : x < 4294967296) : bits .xor .u32 (bits .xor .u32 ((rotr x 7 : Nat) : Int) ((rotr x 18 : Nat) : Int)) ((x : Int) / 8) = ((sg0 x : Nat) : Int) := by
  rw [u32_xor _ _ (rotr_lt 7 h) (rotr_lt 18 h), show (x : Int) / 8 = ((x / 8 : Nat) : Int) by simp, u32_xor _ _ (Nat.xor_lt_two_pow (n := 32) (rotr_lt 7 h) (rotr_lt 18 h)) (by omega)]
  rfl
theorem sg1_int (x : Nat) (h : x < 4294967296) : bits .xor .u32 (bits .xor .u32 ((rotr x 17 : Nat) : Int) ((rotr x 19 : Nat) : Int)) ((x : Int) / 1024) = ((sg1 x : Nat) : Int) := by
  rw [u32_xor _ _ (rotr_lt 17 h) (rotr_lt 19 h), show (x : Int) / 1024 = ((x / 1024 : Nat) : Int) by simp, u32_xor _ _ (Nat.xor_lt_two_pow (n := 32) (rotr_lt 17 h) (rotr_lt 19 h)) (by omega)]
  rfl
theorem bg0_int (x : Nat) (h : x < 4294967296) : bits .xor .u32 (bits .xor .u32 ((rotr x 2 : Nat) : Int) ((rotr x 13 : Nat) : Int)) ((rotr x 22 : Nat) : Int) = ((bg0 x : Nat) : Int) := by
  rw [u32_xor _ _ (rotr_lt 2 h) (rotr_lt 13 h), u32_xor _ _ (Nat.xor_lt_two_pow (n := 32) (rotr_lt 2 h) (rotr_lt 13 h)) (rotr_lt 22 h)]
  rfl
theorem bg1_int (x : Nat) (h : x < 4294967296) : bits .xor .u32 (bits .xor .u32 ((rotr x 6 : Nat) : Int) ((rotr x 11 : Nat) : Int)) ((rotr x 25 : Nat) : Int) = ((bg1 x : Nat) : Int) := by
  rw [u32_xor _ _ (rotr_lt 6 h) (rotr_lt 11 h), u32_xor _ _ (Nat.xor_lt_two_pow (n := 32) (rotr_lt 6 h) (rotr_lt 11 h)) (rotr_lt 25 h)]
  rfl
theorem not_int (x : Nat) (h : x < 4294967296) : bits .xor .u32 (if IntKind.u32.signed = true then -1 else IntKind.u32.max) (x : Int) = ((4294967295 - x : Nat) : Int) := by
  show bits .xor .u32 ((4294967295 : Nat) : Int) (x : Int) = _
  rw [u32_xor _ _ (by decide) h]
  congr 1
  apply Nat.eq_of_testBit_eq
  intro i
  rw [Nat.testBit_xor, show 4294967295 = 2 ^ 32 - 1 from rfl, Nat.testBit_two_pow_sub_one, Nat.sub_sub, Nat.add_comm 1 x, Nat.testBit_two_pow_sub_succ h]
  by_cases hi : i < 32
  · simp [hi]
  · have : x.testBit i = false := Nat.testBit_lt_two_pow (Nat.lt_of_lt_of_le h (Nat.pow_le_pow_right (n := 2) (by decide) (show 32 ≤ i by omega)))
    simp [hi, this]
theorem cho_int (e f g : Nat) (he : e < 4294967296) (hf : f < 4294967296) (hg : g < 4294967296) :
    bits .xor .u32 (bits .and .u32 (e : Int) (f : Int)) (bits .and .u32 (bits .xor .u32 (if IntKind.u32.signed = true then -1 else IntKind.u32.max) (e : Int)) (g : Int)) = ((cho e f g : Nat) : Int) := by
  rw [not_int e he, u32_and _ _ he hf, u32_and _ _ (by omega) hg, u32_xor _ _ (Nat.and_lt_two_pow (n := 32) _ hf) (Nat.and_lt_two_pow (n := 32) _ hg)]
  rfl
theorem maj_int (a b c : Nat) (ha : a < 4294967296) (hb : b < 4294967296) (hc : c < 4294967296) :
    bits .xor .u32 (bits .xor .u32 (bits .and .u32 (a : Int) (b : Int)) (bits .and .u32 (a : Int) (c : Int))) (bits .and .u32 (b : Int) (c : Int)) = ((maj a b c : Nat) : Int) := by
  rw [u32_and _ _ ha hb, u32_and _ _ ha hc, u32_and _ _ hb hc, u32_xor _ _ (Nat.and_lt_two_pow (n := 32) _ hb) (Nat.and_lt_two_pow (n := 32) _ hc),
    u32_xor _ _ (Nat.xor_lt_two_pow (n := 32) (Nat.and_lt_two_pow (n := 32) _ hb) (Nat.and_lt_two_pow (n := 32) _ hc)) (Nat.and_lt_two_pow (n := 32) _ hc)]
  rfl
theorem roots_all : All 4294967296 roots := by intro x hx; revert x; decide
set_option maxRecDepth 100000 in
set_option maxHeartbeats 8000000 in
theorem turn_any (r p : List Nat) (b o c : Nat) (w : World) (hr : r.length = 8) (hra : All 4294967296 r) (hp : p.length = 64) (hpa : All 256 p)
    (hbs : Bs w b o p) (hb : b < w.heap.size) (ht : Tab1 w) (h1 : 1 < w.heap.size) :
    Calls Tryd.prog 28 #[.agg (c32 r), .slice (some ⟨b, o, none⟩) 64 c] w fun e w' => e = .returned (.agg (c32 (turn r p))) ∧ Below w.heap.size w w' := by
  go_enter Tryd.func28, Tryd.ntmps28
  go_wp2
  go_loopw [21] (fun i wr => ∃ k : Nat, k ≤ 16 ∧ i = .int .i64 k ∧ Below w.heap.size w wr ∧ Blk wr w.heap.size 59 (c32 r) ∧ Blk wr (w.heap.size + 1) 59 (c32 (List.replicate 8 0)) ∧ Blk wr (w.heap.size + 1 + 1) 71 (c32 ((w16 p).take k ++ List.replicate (64 - k) 0))) (fun i _ => 16 - (intOf i).toNat)
  case atStart =>
    refine ⟨0, by omega, rfl, (((Below.refl _ _).alloc (Nat.le_refl _) _).alloc (by simp) _).alloc (by simp; omega) _, ((Blk.new w 59 (c32 r)).alloc _).alloc _, (Blk.new_ (w.alloc _) 59 (c32 (List.replicate 8 0)) _ (by simp)).alloc _, Blk.new_ ((w.alloc _).alloc _) 71 _ _ (by simp)⟩

  case round =>
    obtain ⟨k, hk, rfl, hbel, B0, B1, B2⟩ := hrel
    by_cases hlt : k < 16
    · (
        have cc : ∀ j, j < 4 → ∃ x : Nat, x = p.getD (4 * k + j) 0 ∧ x < 256 ∧ wr.cell? ⟨b, o + (4 * k + j), none⟩ = some (.int .u8 (x : Int)) := fun j hj => ⟨_, rfl, hpa.getD (by decide) _, (hbel.cell (p := ⟨b, o + (4 * k + j), none⟩) hb).trans (hbs (4 * k + j) (by omega))⟩
        obtain ⟨x0, e0, l0, g0⟩ := cc 0 (by omega)
        obtain ⟨x1, e1, l1, g1⟩ := cc 1 (by omega)
        obtain ⟨x2, e2, l2, g2⟩ := cc 2 (by omega)
        obtain ⟨x3, e3, l3, g3⟩ := cc 3 (by omega)
        have E0 := Lib.hid e0; have E1 := Lib.hid e1; have E2 := Lib.hid e2; have E3 := Lib.hid e3
        clear e0 e1 e2 e3 cc
        go_wp2
        have L16 := w16_len p
        have g5 := B2.w32 k (by rw [List.length_append, List.length_take, List.length_replicate]; omega)
        have f5 := B2.frozen k
        rw [Nat.add_zero] at g0
        have hne : ∀ (W : World) (u : Value) (i j : Nat), (W.setCell ⟨w.heap.size + 1 + 1, i, none⟩ u).cell? ⟨b, j, none⟩ = W.cell? ⟨b, j, none⟩ := fun W u i j => World.cell?_setCell_other W _ _ u (by intro e; injection e; omega)
        have ak : (0 : Int) ≤ (k : Int) := by omega
        have bk : (k : Int) < 64 := by omega
        have n0 : (4 * (k : Int)).toNat = 4 * k := by omega
        have n1 : (4 * (k : Int) + 1).toNat = 4 * k + 1 := by omega
        have n2 : (4 * (k : Int) + 2).toNat = 4 * k + 2 := by omega
        have n3 : (4 * (k : Int) + 3).toNat = 4 * k + 3 := by omega
        have a0 : (0 : Int) ≤ 4 * (k : Int) := by omega
        have a1 : (0 : Int) ≤ 4 * (k : Int) + 1 := by omega
        have a2 : (0 : Int) ≤ 4 * (k : Int) + 2 := by omega
        have a3 : (0 : Int) ≤ 4 * (k : Int) + 3 := by omega
        have b0 : 4 * (k : Int) < 64 := by omega
        have b1 : 4 * (k : Int) + 1 < 64 := by omega
        have b2 : 4 * (k : Int) + 2 < 64 := by omega
        have b3 : 4 * (k : Int) + 3 < 64 := by omega
        have m0 : IntKind.i64.wrap (4 * (k : Int)) = 4 * (k : Int) := IntWalk.i64_in _ (by omega)
        have m1 : IntKind.i64.wrap (4 * (k : Int) + 1) = 4 * (k : Int) + 1 := IntWalk.i64_in _ (by omega)
        have m2 : IntKind.i64.wrap (4 * (k : Int) + 2) = 4 * (k : Int) + 2 := IntWalk.i64_in _ (by omega)
        have m3 : IntKind.i64.wrap (4 * (k : Int) + 3) = 4 * (k : Int) + 3 := IntWalk.i64_in _ (by omega)
        go_region_held3 (fun w' => w'.cell? ⟨b, o + 4 * k, none⟩ = some (.int .u8 (x0 : Int)) ∧ w'.cell? ⟨b, o + (4 * k + 1), none⟩ = some (.int .u8 (x1 : Int)) ∧ w'.cell? ⟨b, o + (4 * k + 2), none⟩ = some (.int .u8 (x2 : Int)) ∧ w'.cell? ⟨b, o + (4 * k + 3), none⟩ = some (.int .u8 (x3 : Int))) (go_keep) (fail)
        go_wp2
        go_roundw
        case rel =>
          rw [join4 x0 x1 x2 x3 l0 l1 l2 l3]
          refine ⟨k + 1, by omega, by go_num, (hbel.setCell (by show w.heap.size ≤ w.heap.size + 1 + 1; omega) _).drew, (B0.far (by show w.heap.size ≠ w.heap.size + 1 + 1; omega) _).drew, (B1.far (by show w.heap.size + 1 ≠ w.heap.size + 1 + 1; omega) _).drew, ?_⟩
          have h := (B2.set_ k (v32 ((w16 p).getD k 0))).drew
          rw [show 64 - k = (64 - (k + 1)) + 1 by omega, c32_push _ _ _ _ (by rw [List.length_take]; omega)] at h
          have e : (w16 p).getD k 0 = ((x0 * 256 + x1) * 256 + x2) * 256 + x3 := by
            rw [w16_at p k hlt, E0.out, E1.out, E2.out, E3.out, Nat.add_zero]
            rfl
          rw [List.take_succ_eq_append_getElem (by omega), show (w16 p)[k]'(by omega) = (w16 p).getD k 0 by rw [List.getD_eq_getElem?_getD, List.getElem?_eq_getElem (by omega)]; rfl]
          rw [e] at h ⊢
          exact h
        case measure => simp [intOf]; omega)
    · have L16 := w16_len p
      have hge : 16 ≤ k := by omega
      have B2' : Blk wr (w.heap.size + 1 + 1) 71 (c32 (sched p 0 ++ List.replicate (64 - 16) 0)) := by
        rw [List.take_of_length_le (by omega), show 64 - k = 64 - 16 by omega] at B2
        exact B2
      have C2 := Lib.hid B2'
      clear B2 B2' hlt
      obtain ⟨wo, rfl⟩ : ∃ wo : World, wo = wr := ⟨_, rfl⟩
      go_wp2
      go_loopw [7] (fun i wr => ∃ n : Nat, 16 ≤ n ∧ n ≤ 64 ∧ i = .int .i64 n ∧ Below w.heap.size w wr ∧ Blk wr w.heap.size 59 (c32 r) ∧ Blk wr (w.heap.size + 1) 59 (c32 (List.replicate 8 0)) ∧ Blk wr (w.heap.size + 1 + 1) 71 (c32 (sched p (n - 16) ++ List.replicate (64 - n) 0))) (fun i _ => 64 - (intOf i).toNat)
      case atStart => exact ⟨16, by omega, by omega, rfl, hbel, B0, B1, C2.out⟩
      case round =>
        clear hbel B0 B1 C2 hge hk L16
        obtain ⟨n, hn1, hn2, rfl, hbel, B0, B1, B2⟩ := hrel
        have hSl := sched_len p (n - 16)
        have hSa := sched_all hpa (n - 16)
        by_cases hlt : n < 64
        · (
            have cc : ∀ j, 1 ≤ j → j ≤ 16 → ∃ x : Nat, x = (sched p (n - 16)).getD (n - j) 0 ∧ x < 4294967296 ∧ wr.cell? ⟨w.heap.size + 1 + 1, n - j, none⟩ = some (.int .u32 (x : Int)) := fun j hj1 hj2 => ⟨_, rfl, hSa.getD (by decide) _, by
              have h := B2.w32 (n - j) (by rw [List.length_append, hSl, List.length_replicate]; omega)
              rw [List.getD_eq_getElem?_getD, List.getElem?_append_left (by omega), ← List.getD_eq_getElem?_getD] at h
              exact h⟩
            obtain ⟨x, e0, l0, g0⟩ := cc 15 (by omega) (by omega)
            obtain ⟨y, e1, l1, g1⟩ := cc 2 (by omega) (by omega)
            obtain ⟨x16, e2, l2, g2⟩ := cc 16 (by omega) (by omega)
            obtain ⟨x7, e3, l3, g3⟩ := cc 7 (by omega) (by omega)
            have E0 := Lib.hid e0; have E1 := Lib.hid e1; have E2 := Lib.hid e2; have E3 := Lib.hid e3; have HSl := Lib.hid hSl
            have g5 := B2.w32 n (by rw [List.length_append, hSl, List.length_replicate]; omega)
            have f5 := B2.frozen n
            clear e0 e1 e2 e3 cc hSl hSa
            have hn0 : ∀ (W : World) (u : Value), (W.setCell ⟨w.heap.size + 1 + 1, n, none⟩ u).cell? ⟨w.heap.size + 1 + 1, n - 16, none⟩ = W.cell? ⟨w.heap.size + 1 + 1, n - 16, none⟩ := fun W u => World.cell?_setCell_other W _ _ u (by intro e; injection e; omega)
            have hn7 : ∀ (W : World) (u : Value), (W.setCell ⟨w.heap.size + 1 + 1, n, none⟩ u).cell? ⟨w.heap.size + 1 + 1, n - 7, none⟩ = W.cell? ⟨w.heap.size + 1 + 1, n - 7, none⟩ := fun W u => World.cell?_setCell_other W _ _ u (by intro e; injection e; omega)
            have t15 : ((n : Int) - 15).toNat = n - 15 := by omega
            have t2 : ((n : Int) - 2).toNat = n - 2 := by omega
            have t16 : ((n : Int) - 16).toNat = n - 16 := by omega
            have t7 : ((n : Int) - 7).toNat = n - 7 := by omega
            have a15 : (0 : Int) ≤ (n : Int) - 15 := by omega
            have a2 : (0 : Int) ≤ (n : Int) - 2 := by omega
            have a16 : (0 : Int) ≤ (n : Int) - 16 := by omega
            have a7 : (0 : Int) ≤ (n : Int) - 7 := by omega
            have an : (0 : Int) ≤ (n : Int) := by omega
            have b15 : (n : Int) - 15 < 64 := by omega
            have b2 : (n : Int) - 2 < 64 := by omega
            have b16 : (n : Int) - 16 < 64 := by omega
            have b7 : (n : Int) - 7 < 64 := by omega
            have bn : (n : Int) < 64 := by omega
            have q16 : (16 : Int) ≤ (n : Int) := by omega
            have q7 : (7 : Int) ≤ (n : Int) := by omega
            have m15 : IntKind.i64.wrap ((n : Int) - 15) = (n : Int) - 15 := IntWalk.i64_in _ (by omega)
            have m2 : IntKind.i64.wrap ((n : Int) - 2) = (n : Int) - 2 := IntWalk.i64_in _ (by omega)
            have m16 : IntKind.i64.wrap ((n : Int) - 16) = (n : Int) - 16 := IntWalk.i64_in _ (by omega)
            have m7 : IntKind.i64.wrap ((n : Int) - 7) = (n : Int) - 7 := IntWalk.i64_in _ (by omega)
            go_wp2
            skip
            go_quiet (fail)
            go_wp2
            skip
            go_region_held3 (fun w' => w'.cell? ⟨w.heap.size + 1 + 1, n - 16, none⟩ = some (.int .u32 (x16 : Int)) ∧ w'.cell? ⟨w.heap.size + 1 + 1, n - 7, none⟩ = some (.int .u32 (x7 : Int))) (go_keep)
              (first
                | (go_at_call 38; (with_reducible refine (round_7 x _ l0).mono ?_); rintro e w' ⟨rfl, rfl⟩)
                | (go_at_call 38; (with_reducible refine (round_18 x _ l0).mono ?_); rintro e w' ⟨rfl, rfl⟩)
                | (go_at_call 38; (with_reducible refine (round_17 y _ l1).mono ?_); rintro e w' ⟨rfl, rfl⟩)
                | (go_at_call 38; (with_reducible refine (round_19 y _ l1).mono ?_); rintro e w' ⟨rfl, rfl⟩))
            skip
            go_wp2
            go_roundw
            case rel =>
              rw [sg0_int x l0, sg1_int y l1]
              have e : ((((x16 : Int) + ((sg0 x : Nat) : Int)) % 4294967296 + (x7 : Int)) % 4294967296 + ((sg1 y : Nat) : Int)) % 4294967296 = ((nextW (sched p (n - 16)) : Nat) : Int) := by
                unfold nextW
                rw [HSl.out, show 16 + (n - 16) = n by omega, ← E0.out, ← E1.out, ← E2.out, ← E3.out]
                omega
              rw [e]
              refine ⟨n + 1, by omega, by omega, by go_num, (below_drewN hbel _).setCell (by show w.heap.size ≤ w.heap.size + 1 + 1; omega) _, (B0.drewN _).far (by show w.heap.size ≠ w.heap.size + 1 + 1; omega) _, (B1.drewN _).far (by show w.heap.size + 1 ≠ w.heap.size + 1 + 1; omega) _, ?_⟩
              have h := (B2.drewN (nq + 1)).set_ n (v32 (nextW (sched p (n - 16))))
              rw [show 64 - n = (64 - (n + 1)) + 1 by omega, c32_push _ _ _ _ (by rw [HSl.out]; omega)] at h
              rw [show n + 1 - 16 = (n - 16) + 1 by omega]
              exact h
            case measure => simp [intOf]; omega)
        · have hge : 64 ≤ n := by omega
          have C2 : Hid (Blk wr (w.heap.size + 1 + 1) 71 (c32 (sched p 48))) := by
            have h := B2
            rw [show n - 16 = 48 by omega, show 64 - n = 0 by omega, List.replicate_zero, List.append_nil] at h
            exact h
          clear B2 hlt hSl hSa
          have nz : ∀ i, i < 8 → ∃ x : Nat, x = r.getD i 0 ∧ x < 4294967296 ∧ wr.cell? ⟨w.heap.size, i, none⟩ = some (.int .u32 (x : Int)) := fun i hi => ⟨_, rfl, hra.getD (by decide) i, B0.w32 i (by omega)⟩
          obtain ⟨y0, ey0, ly0, z0⟩ := nz 0 (by omega)
          obtain ⟨y1, ey1, ly1, z1⟩ := nz 1 (by omega)
          obtain ⟨y2, ey2, ly2, z2⟩ := nz 2 (by omega)
          obtain ⟨y3, ey3, ly3, z3⟩ := nz 3 (by omega)
          obtain ⟨y4, ey4, ly4, z4⟩ := nz 4 (by omega)
          obtain ⟨y5, ey5, ly5, z5⟩ := nz 5 (by omega)
          obtain ⟨y6, ey6, ly6, z6⟩ := nz 6 (by omega)
          obtain ⟨y7, ey7, ly7, z7⟩ := nz 7 (by omega)
          clear nz
          have EY0 := Lib.hid ey0; clear ey0
          have EY1 := Lib.hid ey1; clear ey1
          have EY2 := Lib.hid ey2; clear ey2
          have EY3 := Lib.hid ey3; clear ey3
          have EY4 := Lib.hid ey4; clear ey4
          have EY5 := Lib.hid ey5; clear ey5
          have EY6 := Lib.hid ey6; clear ey6
          have EY7 := Lib.hid ey7; clear ey7
          obtain ⟨wo2, rfl⟩ : ∃ wo2 : World, wo2 = wr := ⟨_, rfl⟩
          go_wp2
          go_quiet (fail)
          go_wp2
          clear z0 z1 z2 z3 z4 z5 z6 z7
          go_loopw [117, 10, 11, 12, 13, 14, 15, 16, 17] (fun t a b c d e f g h wr => ∃ n : Nat, n ≤ 64 ∧ t = .int .i64 n ∧ (∃ R : List Nat, R = regs r (sched p 48) n ∧ a = .int .u32 (R.getD 0 0 : Nat) ∧ b = .int .u32 (R.getD 1 0 : Nat) ∧ c = .int .u32 (R.getD 2 0 : Nat) ∧ d = .int .u32 (R.getD 3 0 : Nat) ∧ e = .int .u32 (R.getD 4 0 : Nat) ∧ f = .int .u32 (R.getD 5 0 : Nat) ∧ g = .int .u32 (R.getD 6 0 : Nat) ∧ h = .int .u32 (R.getD 7 0 : Nat)) ∧ Below w.heap.size w wr ∧ Blk wr w.heap.size 59 (c32 r) ∧ Blk wr (w.heap.size + 1) 59 (c32 (List.replicate 8 0)) ∧ Blk wr (w.heap.size + 1 + 1) 71 (c32 (sched p 48))) (fun t _ _ _ _ _ _ _ _ _ => 64 - (intOf t).toNat)
          case atStart => exact ⟨0, by omega, rfl, ⟨r, rfl, by rw [EY0.out], by rw [EY1.out], by rw [EY2.out], by rw [EY3.out], by rw [EY4.out], by rw [EY5.out], by rw [EY6.out], by rw [EY7.out]⟩, below_drewN hbel _, B0, B1, C2.out⟩
          case round =>
            clear hbel B0 B1 C2 hge hn1 hn2
            clear EY0 EY1 EY2 EY3 EY4 EY5 EY6 EY7 ly0 ly1 ly2 ly3 ly4 ly5 ly6 ly7
            obtain ⟨m, hm, rfl, ⟨R, hR, rfl, rfl, rfl, rfl, rfl, rfl, rfl, rfl⟩, hbel, B0, B1, B2⟩ := hrel
            have hRa : All 4294967296 R := hR ▸ regs_all hra m
            have hRl : R.length = 8 := hR ▸ regs_len hr m
            have nm : ∀ i, ∃ x : Nat, x = R.getD i 0 ∧ x < 4294967296 := fun i => ⟨_, rfl, hRa.getD (by decide) i⟩
            obtain ⟨A, eA, lA⟩ := nm 0
            obtain ⟨B, eB, lB⟩ := nm 1
            obtain ⟨C, eC, lC⟩ := nm 2
            obtain ⟨D, eD, lD⟩ := nm 3
            obtain ⟨E, eE, lE⟩ := nm 4
            obtain ⟨F, eF, lF⟩ := nm 5
            obtain ⟨G, eG, lG⟩ := nm 6
            obtain ⟨K, eK, lK⟩ := nm 7
            rw [← eA, ← eB, ← eC, ← eD, ← eE, ← eF, ← eG, ← eK]
            have HR := Lib.hid hR
            have EA := Lib.hid eA; have EB := Lib.hid eB; have EC := Lib.hid eC; have ED := Lib.hid eD; have EE := Lib.hid eE; have EF := Lib.hid eF; have EG := Lib.hid eG; have EK := Lib.hid eK
            clear nm eA eB eC eD eE eF eG eK hR hRl hRa
            by_cases hlt : m < 64
            · (
              obtain ⟨kt, ekt⟩ : ∃ x : Nat, x = roots.getD m 0 := ⟨_, rfl⟩
              obtain ⟨ww, eww⟩ : ∃ x : Nat, x = (sched p 48).getD m 0 := ⟨_, rfl⟩
              have lk : kt < 4294967296 := ekt ▸ roots_all.getD (by decide) m
              have lw : ww < 4294967296 := eww ▸ (sched_all hpa 48).getD (by decide) m
              have gk : wr.cell? ⟨1, m, none⟩ = some (.int .u32 (kt : Int)) := by rw [hbel.cell (p := ⟨1, m, none⟩) h1, ht m hlt, ekt]; rfl
              have gw : wr.cell? ⟨w.heap.size + 1 + 1, m, none⟩ = some (.int .u32 (ww : Int)) := by rw [B2.w32 m (by rw [sched_len]; omega), eww]
              have EK' := Lib.hid ekt; have EW := Lib.hid eww
              clear ekt eww
              have am : (0 : Int) ≤ (m : Int) := by omega
              have bm : (m : Int) < 64 := by omega
              go_wp2
              go_quiet (first
                | (go_at_call 38; with_reducible exact quiet_left (round_6 E _ lE))
                | (go_at_call 38; with_reducible exact quiet_left (round_11 E _ lE))
                | (go_at_call 38; with_reducible exact quiet_left (round_25 E _ lE)))
              go_wp2_with (first
                | (go_at_call 38; (with_reducible refine (round_2 A _ lA).mono ?_); rintro e w' ⟨rfl, rfl⟩)
                | (go_at_call 38; (with_reducible refine (round_13 A _ lA).mono ?_); rintro e w' ⟨rfl, rfl⟩)
                | (go_at_call 38; (with_reducible refine (round_22 A _ lA).mono ?_); rintro e w' ⟨rfl, rfl⟩))
              go_roundw
              case rel =>
                rw [bg1_int E lE, cho_int E F G lE lF lG, bg0_int A lA, maj_int A B C lA lB lC]
                refine ⟨m + 1, by omega, by go_num, ⟨stepR R (roots.getD m 0) ((sched p 48).getD m 0), by rw [HR.out]; rfl, ?_, ?_, ?_, ?_, ?_, ?_, ?_, ?_⟩, below_drewN hbel _, B0, B1, B2⟩
                · show _ = Value.int .u32 (((stepU R (roots.getD m 0) ((sched p 48).getD m 0) + stepV R) % 4294967296 : Nat) : Int)
                  unfold stepU stepV
                  rw [← EA.out, ← EB.out, ← EC.out, ← EE.out, ← EF.out, ← EG.out, ← EK.out, ← EK'.out, ← EW.out]
                  congr 1; try omega
                · rw [EA.out]; rfl
                · rw [EB.out]; rfl
                · rw [EC.out]; rfl
                · show _ = Value.int .u32 (((R.getD 3 0 + stepU R (roots.getD m 0) ((sched p 48).getD m 0)) % 4294967296 : Nat) : Int)
                  unfold stepU
                  rw [← ED.out, ← EE.out, ← EF.out, ← EG.out, ← EK.out, ← EK'.out, ← EW.out]
                  congr 1; try omega
                · rw [EE.out]; rfl
                · rw [EF.out]; rfl
                · rw [EG.out]; rfl
              case measure => simp [intOf]; omega)
            · have hm64 : m = 64 := by omega
              have nz : ∀ i, i < 8 → ∃ x : Nat, x = r.getD i 0 ∧ x < 4294967296 ∧ wr.cell? ⟨w.heap.size, i, none⟩ = some (.int .u32 (x : Int)) := fun i hi => ⟨_, rfl, hra.getD (by decide) i, B0.w32 i (by omega)⟩
              obtain ⟨y0, ey0, ly0, z0⟩ := nz 0 (by omega)
              obtain ⟨y1, ey1, ly1, z1⟩ := nz 1 (by omega)
              obtain ⟨y2, ey2, ly2, z2⟩ := nz 2 (by omega)
              obtain ⟨y3, ey3, ly3, z3⟩ := nz 3 (by omega)
              obtain ⟨y4, ey4, ly4, z4⟩ := nz 4 (by omega)
              obtain ⟨y5, ey5, ly5, z5⟩ := nz 5 (by omega)
              obtain ⟨y6, ey6, ly6, z6⟩ := nz 6 (by omega)
              obtain ⟨y7, ey7, ly7, z7⟩ := nz 7 (by omega)
              clear nz
              have EY0 := Lib.hid ey0; clear ey0
              have EY1 := Lib.hid ey1; clear ey1
              have EY2 := Lib.hid ey2; clear ey2
              have EY3 := Lib.hid ey3; clear ey3
              have EY4 := Lib.hid ey4; clear ey4
              have EY5 := Lib.hid ey5; clear ey5
              have EY6 := Lib.hid ey6; clear ey6
              have EY7 := Lib.hid ey7; clear ey7
              have hge : 64 ≤ m := by omega
              clear hlt
              have HM := Lib.hid hm64; clear hm64
              have o0 : ∀ j, j < 8 → wr.cell? ⟨w.heap.size + 1, j, none⟩ = some (.int .u32 0) := fun j hj => by
                rw [B1.w32 j (by rw [List.length_replicate]; omega), List.getD_eq_getElem?_getD, List.getElem?_replicate, if_pos hj]
                rfl
              have q0 := o0 0 (by omega); have q1 := o0 1 (by omega); have q2 := o0 2 (by omega); have q3 := o0 3 (by omega)
              have q4 := o0 4 (by omega); have q5 := o0 5 (by omega); have q6 := o0 6 (by omega); have q7 := o0 7 (by omega)
              have f0 := B1.frozen 0; have f1 := B1.frozen 1; have f2 := B1.frozen 2; have f3 := B1.frozen 3
              have f4 := B1.frozen 4; have f5 := B1.frozen 5; have f6 := B1.frozen 6; have f7 := B1.frozen 7
              clear o0
              go_wp2
              have hB := ((((((((B1.set_ 0 (v32 ((y0 + A) % 4294967296))).set_ 1 (v32 ((y1 + B) % 4294967296))).set_ 2 (v32 ((y2 + C) % 4294967296))).set_ 3 (v32 ((y3 + D) % 4294967296))).set_ 4 (v32 ((y4 + E) % 4294967296))).set_ 5 (v32 ((y5 + F) % 4294967296))).set_ 6 (v32 ((y6 + G) % 4294967296))).set_ 7 (v32 ((y7 + K) % 4294967296)))
              have hbe : w.heap.size ≤ w.heap.size + 1 := by omega
              have hBel := (((((((hbel.setCell (p := ⟨w.heap.size + 1, 0, none⟩) hbe (v32 ((y0 + A) % 4294967296))).setCell (p := ⟨w.heap.size + 1, 1, none⟩) hbe (v32 ((y1 + B) % 4294967296))).setCell (p := ⟨w.heap.size + 1, 2, none⟩) hbe (v32 ((y2 + C) % 4294967296))).setCell (p := ⟨w.heap.size + 1, 3, none⟩) hbe (v32 ((y3 + D) % 4294967296))).setCell (p := ⟨w.heap.size + 1, 4, none⟩) hbe (v32 ((y4 + E) % 4294967296))).setCell (p := ⟨w.heap.size + 1, 5, none⟩) hbe (v32 ((y5 + F) % 4294967296))).setCell (p := ⟨w.heap.size + 1, 6, none⟩) hbe (v32 ((y6 + G) % 4294967296))).setCell (p := ⟨w.heap.size + 1, 7, none⟩) hbe (v32 ((y7 + K) % 4294967296))
              have hv : ∀ a b : Nat, (((a : Int) + (b : Int)) % 4294967296) = (((a + b) % 4294967296 : Nat) : Int) := fun a b => by omega
              have e : (((((((((c32 (List.replicate 8 0)).setIfInBounds 0 (v32 ((y0 + A) % 4294967296))).setIfInBounds 1 (v32 ((y1 + B) % 4294967296))).setIfInBounds 2 (v32 ((y2 + C) % 4294967296))).setIfInBounds 3 (v32 ((y3 + D) % 4294967296))).setIfInBounds 4 (v32 ((y4 + E) % 4294967296))).setIfInBounds 5 (v32 ((y5 + F) % 4294967296))).setIfInBounds 6 (v32 ((y6 + G) % 4294967296))).setIfInBounds 7 (v32 ((y7 + K) % 4294967296))) = c32 (turn r p) := by
                rw [EY0.out, EY1.out, EY2.out, EY3.out, EY4.out, EY5.out, EY6.out, EY7.out, EA.out, EB.out, EC.out, ED.out, EE.out, EF.out, EG.out, EK.out, HR.out, HM.out]
                rfl
              rw [e] at hB
              simp only [hv]
              exact bodyPost_ret (results_cell_row rfl _ _ (w.heap.size + 1) 59 (c32 (turn r p)) (0, 0) _ rfl hB Tryd.underlying59 rfl (by kernel_rfl)) rfl ⟨rfl, hBel⟩
theorem rround_any (x n : Nat) (w : World) (hx : x < 4294967296) (h0 : 1 ≤ n) (hn : n ≤ 31) :
    Calls Tryd.prog 43 #[.int .u32 x, .int .i64 n] w fun e w' => e = .returned (.int .u32 (rotr x n)) ∧ w = w' := by
  have h1 : (0 : Int) ≤ n := by omega
  have h2 : (n : Int) ≤ 31 := by omega
  have h3 : (0 : Int) ≤ x := by omega
  have h4 : (x : Int) < 4294967296 := by omega
  go_enter Tryd.func43, Tryd.ntmps43
  go_wp2
  go_ret
  refine ⟨?_, rfl⟩
  show Ending.returned (Value.int .u32 (bits .or .u32 ((x : Int) / 2 ^ n) ((x : Int) * 2 ^ (32 - n) % 4294967296))) = _
  rw [show ((x : Int) / 2 ^ n) = ((x / 2 ^ n : Nat) : Int) by simp, show ((x : Int) * 2 ^ (32 - n) % 4294967296) = ((x * 2 ^ (32 - n) % 4294967296 : Nat) : Int) by simp,
    u32_or _ _ (Nat.lt_of_le_of_lt (Nat.div_le_self _ _) hx) (Nat.mod_lt _ (by decide))]
  rfl
theorem rround_2 (x : Nat) (w : World) (hx : x < 4294967296) : Calls Tryd.prog 43 #[.int .u32 x, .int .i64 2] w fun e w' => e = .returned (.int .u32 (rotr x 2)) ∧ w = w' := rround_any x 2 w hx (by decide) (by decide)
theorem rround_6 (x : Nat) (w : World) (hx : x < 4294967296) : Calls Tryd.prog 43 #[.int .u32 x, .int .i64 6] w fun e w' => e = .returned (.int .u32 (rotr x 6)) ∧ w = w' := rround_any x 6 w hx (by decide) (by decide)
theorem rround_7 (x : Nat) (w : World) (hx : x < 4294967296) : Calls Tryd.prog 43 #[.int .u32 x, .int .i64 7] w fun e w' => e = .returned (.int .u32 (rotr x 7)) ∧ w = w' := rround_any x 7 w hx (by decide) (by decide)
theorem rround_11 (x : Nat) (w : World) (hx : x < 4294967296) : Calls Tryd.prog 43 #[.int .u32 x, .int .i64 11] w fun e w' => e = .returned (.int .u32 (rotr x 11)) ∧ w = w' := rround_any x 11 w hx (by decide) (by decide)
theorem rround_13 (x : Nat) (w : World) (hx : x < 4294967296) : Calls Tryd.prog 43 #[.int .u32 x, .int .i64 13] w fun e w' => e = .returned (.int .u32 (rotr x 13)) ∧ w = w' := rround_any x 13 w hx (by decide) (by decide)
theorem rround_17 (x : Nat) (w : World) (hx : x < 4294967296) : Calls Tryd.prog 43 #[.int .u32 x, .int .i64 17] w fun e w' => e = .returned (.int .u32 (rotr x 17)) ∧ w = w' := rround_any x 17 w hx (by decide) (by decide)
theorem rround_18 (x : Nat) (w : World) (hx : x < 4294967296) : Calls Tryd.prog 43 #[.int .u32 x, .int .i64 18] w fun e w' => e = .returned (.int .u32 (rotr x 18)) ∧ w = w' := rround_any x 18 w hx (by decide) (by decide)
theorem rround_19 (x : Nat) (w : World) (hx : x < 4294967296) : Calls Tryd.prog 43 #[.int .u32 x, .int .i64 19] w fun e w' => e = .returned (.int .u32 (rotr x 19)) ∧ w = w' := rround_any x 19 w hx (by decide) (by decide)
theorem rround_22 (x : Nat) (w : World) (hx : x < 4294967296) : Calls Tryd.prog 43 #[.int .u32 x, .int .i64 22] w fun e w' => e = .returned (.int .u32 (rotr x 22)) ∧ w = w' := rround_any x 22 w hx (by decide) (by decide)
theorem rround_25 (x : Nat) (w : World) (hx : x < 4294967296) : Calls Tryd.prog 43 #[.int .u32 x, .int .i64 25] w fun e w' => e = .returned (.int .u32 (rotr x 25)) ∧ w = w' := rround_any x 25 w hx (by decide) (by decide)
def Tab2 (w : World) : Prop := ∀ j, j < 64 → w.cell? ⟨2, j, none⟩ = some (v32 (roots.getD j 0))
/-- The first j bytes of word t. -/
def acc (p : List Nat) (t : Nat) : Nat → Nat
  | 0 => 0
  | j + 1 => (acc p t j * 256 + p.getD (4 * t + j) 0) % 4294967296
theorem acc_lt (p : List Nat) (t : Nat) : ∀ j, acc p t j < 4294967296
  | 0 => by unfold acc; decide
  | _ + 1 => Nat.mod_lt _ (by decide)
theorem acc_four {p : List Nat} (hp : All 256 p) (t : Nat) : acc p t 4 = word4 p t := by
  simp only [acc, word4, Nat.add_zero]
  have := hp.getD (by decide) (4 * t); have := hp.getD (by decide) (4 * t + 1); have := hp.getD (by decide) (4 * t + 2); have := hp.getD (by decide) (4 * t + 3)
  omega
theorem c32_eight (r : List Nat) (h : r.length = 8) : c32 r = #[.int .u32 (r.getD 0 0 : Nat), .int .u32 (r.getD 1 0 : Nat), .int .u32 (r.getD 2 0 : Nat), .int .u32 (r.getD 3 0 : Nat), .int .u32 (r.getD 4 0 : Nat), .int .u32 (r.getD 5 0 : Nat), .int .u32 (r.getD 6 0 : Nat), .int .u32 (r.getD 7 0 : Nat)] := by
  match r, h with
  | [_, _, _, _, _, _, _, _], _ => rfl
theorem c32_set (l m : List Nat) (i x y : Nat) (hi : l.length = i) : (c32 (l ++ [x] ++ m)).setIfInBounds i (v32 y) = c32 (l ++ [y] ++ m) := by
  subst hi
  unfold c32
  rw [set_list, List.append_assoc, List.append_assoc, List.set_append_right _ _ (Nat.le_refl _), Nat.sub_self]
  rfl
theorem set_eight (cs : Array Value) (hs : cs.size = 8) (v0 v1 v2 v3 v4 v5 v6 v7 : Value) :
    (((((((cs.setIfInBounds 0 v0).setIfInBounds 1 v1).setIfInBounds 2 v2).setIfInBounds 3 v3).setIfInBounds 4 v4).setIfInBounds 5 v5).setIfInBounds 6 v6).setIfInBounds 7 v7 = #[v0, v1, v2, v3, v4, v5, v6, v7] := by
  obtain ⟨l⟩ := cs
  have hs' : l.length = 8 := hs
  clear hs
  match l, hs' with
  | [_, _, _, _, _, _, _, _], _ => simp only [List.setIfInBounds_toArray, List.set_cons_zero, List.set_cons_succ]
theorem Blk.eight {w : World} {g t : Nat} {cs : Array Value} (h : Blk w g t cs) (hs : cs.size = 8) (v0 v1 v2 v3 v4 v5 v6 v7 : Value) : Blk ((((((((w.setCell ⟨g, 0, none⟩ v0).setCell ⟨g, 1, none⟩ v1).setCell ⟨g, 2, none⟩ v2).setCell ⟨g, 3, none⟩ v3).setCell ⟨g, 4, none⟩ v4).setCell ⟨g, 5, none⟩ v5).setCell ⟨g, 6, none⟩ v6).setCell ⟨g, 7, none⟩ v7) g t #[v0, v1, v2, v3, v4, v5, v6, v7] := by
  have h8 := ((((((((h.set_ 0 v0).set_ 1 v1).set_ 2 v2).set_ 3 v3).set_ 4 v4).set_ 5 v5).set_ 6 v6).set_ 7 v7)
  rw [set_eight cs hs] at h8
  exact h8
theorem Blk.far_eight {w : World} {k g t : Nat} {cs : Array Value} (h : Blk w k t cs) (hne : k ≠ g) (v0 v1 v2 v3 v4 v5 v6 v7 : Value) : Blk ((((((((w.setCell ⟨g, 0, none⟩ v0).setCell ⟨g, 1, none⟩ v1).setCell ⟨g, 2, none⟩ v2).setCell ⟨g, 3, none⟩ v3).setCell ⟨g, 4, none⟩ v4).setCell ⟨g, 5, none⟩ v5).setCell ⟨g, 6, none⟩ v6).setCell ⟨g, 7, none⟩ v7) k t cs :=
  ((((((((h.far (p := ⟨g, 0, none⟩) hne v0).far (p := ⟨g, 1, none⟩) hne v1).far (p := ⟨g, 2, none⟩) hne v2).far (p := ⟨g, 3, none⟩) hne v3).far (p := ⟨g, 4, none⟩) hne v4).far (p := ⟨g, 5, none⟩) hne v5).far (p := ⟨g, 6, none⟩) hne v6).far (p := ⟨g, 7, none⟩) hne v7)
theorem below_eight {B : Nat} {a w : World} {g : Nat} (h : Below B a w) (hg : B ≤ g) (v0 v1 v2 v3 v4 v5 v6 v7 : Value) : Below B a ((((((((w.setCell ⟨g, 0, none⟩ v0).setCell ⟨g, 1, none⟩ v1).setCell ⟨g, 2, none⟩ v2).setCell ⟨g, 3, none⟩ v3).setCell ⟨g, 4, none⟩ v4).setCell ⟨g, 5, none⟩ v5).setCell ⟨g, 6, none⟩ v6).setCell ⟨g, 7, none⟩ v7) :=
  ((((((((h.setCell (p := ⟨g, 0, none⟩) hg v0).setCell (p := ⟨g, 1, none⟩) hg v1).setCell (p := ⟨g, 2, none⟩) hg v2).setCell (p := ⟨g, 3, none⟩) hg v3).setCell (p := ⟨g, 4, none⟩) hg v4).setCell (p := ⟨g, 5, none⟩) hg v5).setCell (p := ⟨g, 6, none⟩) hg v6).setCell (p := ⟨g, 7, none⟩) hg v7)
theorem cho_int' (e f g : Nat) (he : e < 4294967296) (hf : f < 4294967296) (hg : g < 4294967296) :
    bits .xor .u32 (bits .and .u32 (e : Int) (f : Int)) (bits .and .u32 (bits .xor .u32 IntKind.u32.max (e : Int)) (g : Int)) = ((cho e f g : Nat) : Int) := cho_int e f g he hf hg
theorem add_take (l R : List Nat) (k : Nat) (hk : k < l.length) (hR : R.length = l.length) : (c32 (l.take k ++ R.drop k)).setIfInBounds k (v32 (l.getD k 0)) = c32 (l.take (k + 1) ++ R.drop (k + 1)) := by
  have h1 : (l.take k).length = k := by rw [List.length_take]; omega
  have h2 : R.drop k = R[k] :: R.drop (k + 1) := (List.drop_eq_getElem_cons (by omega))
  rw [h2]
  have h3 := c32_set (l.take k) (R.drop (k + 1)) k R[k] (l.getD k 0) h1
  rw [List.append_assoc] at h3
  rw [show R[k] :: R.drop (k + 1) = [R[k]] ++ R.drop (k + 1) from rfl, h3, List.take_succ_eq_append_getElem hk, List.getD_eq_getElem?_getD, List.getElem?_eq_getElem hk]
  rfl
set_option maxRecDepth 100000 in
set_option maxHeartbeats 8000000 in
theorem rturn_any (r q : List Nat) (b o c at_ : Nat) (w : World) (hr : r.length = 8) (hra : All 4294967296 r) (hq : at_ + 64 ≤ q.length) (hq2 : q.length ≤ 140737488355328) (hqa : All 256 q)
    (hbs : Bs w b o q) (hb : b < w.heap.size) (ht : Tab2 w) (h2 : 2 < w.heap.size) :
    Calls Tryd.prog 39 #[.agg (c32 r), .slice (some ⟨b, o, none⟩) q.length c, .int .i64 at_] w fun e w' => e = .returned (.agg (c32 (turn r ((q.drop at_).take 64)))) ∧ Below w.heap.size w w' := by
  obtain ⟨p, hp⟩ : ∃ p, p = (q.drop at_).take 64 := ⟨_, rfl⟩
  have hpa : All 256 p := hp ▸ (hqa.drop _).take _
  have hpq : ∀ i, i < 64 → p.getD i 0 = q.getD (at_ + i) 0 := fun i hi => by rw [hp, getD_take _ _ _ hi, List.getD_eq_getElem?_getD, List.getElem?_drop, ← List.getD_eq_getElem?_getD]
  have hbp : ∀ j, j < 64 → w.cell? ⟨b, o + (at_ + j), none⟩ = some (.int .u8 (p.getD j 0 : Nat)) := fun j hj => by rw [hbs (at_ + j) (by omega), hpq j hj]; rfl
  rw [← hp]
  have HP := Lib.hid hp
  have HR := Lib.hid hr
  obtain ⟨T, hT⟩ : ∃ T, T = S64 p := ⟨_, rfl⟩
  have S64l : Hid (T.length = 64) := by rw [hT]; exact S64_len p
  have S64a : All 4294967296 T := by rw [hT]; exact S64_all hpa
  have HT0 := Lib.hid hT
  clear hT
  have HBP := Lib.hid hbp
  have HBS := Lib.hid hbs
  clear hbp hbs
  clear hp hpq hr
  go_enter Tryd.func39, Tryd.ntmps39
  go_wp2
  go_loopw [8] (fun i wr => ∃ t : Nat, t ≤ 64 ∧ i = .int .i64 t ∧ Below w.heap.size w wr ∧ Blk wr w.heap.size 46 (c32 r) ∧ Blk wr (w.heap.size + 1) 46 (c32 (List.replicate 8 0)) ∧ Blk wr (w.heap.size + 1 + 1) 71 (c32 (T.take t ++ List.replicate (64 - t) 0)) ∧ wr.heap.size = w.heap.size + 1 + 1 + 1) (fun i _ => 64 - (intOf i).toNat)
  case atStart =>
    refine ⟨0, by omega, rfl, (((Below.refl _ _).alloc (Nat.le_refl _) _).alloc (by simp) _).alloc (by simp; omega) _, ((Blk.new w 46 (c32 r)).alloc _).alloc _, (Blk.new_ (w.alloc _) 46 (c32 (List.replicate 8 0)) _ (by simp)).alloc _, Blk.new_ ((w.alloc _).alloc _) 71 _ _ (by simp), by simp⟩
  case round =>
    obtain ⟨t, ht64, rfl, hbel, B0, B1, B2, hsz⟩ := hrel
    have HS := Lib.hid hsz; clear hsz
    by_cases hlt : t < 64
    · by_cases hlo : t < 16
      · (
        have d1 : decide ((t : Int) < 64) = true := decide_eq_true (by omega)
        have d2 : decide ((t : Int) < 16) = true := decide_eq_true (by omega)
        go_wp2
        have B2' : Blk wr (w.heap.size + 1 + 1) 71 (c32 (T.take t ++ [acc p t 0] ++ List.replicate (63 - t) 0)) := by
          rw [show 64 - t = (63 - t) + 1 by omega, List.replicate_succ] at B2
          rw [List.append_assoc]
          exact B2
        have C2 := Lib.hid B2'
        clear B2 B2'
        obtain ⟨wo, rfl⟩ : ∃ wo : World, wo = wr := ⟨_, rfl⟩
        go_loopw [9] (fun i wr => ∃ j : Nat, j ≤ 4 ∧ i = .int .i64 j ∧ Below w.heap.size w wr ∧ Blk wr w.heap.size 46 (c32 r) ∧ Blk wr (w.heap.size + 1) 46 (c32 (List.replicate 8 0)) ∧ Blk wr (w.heap.size + 1 + 1) 71 (c32 (T.take t ++ [acc p t j] ++ List.replicate (63 - t) 0)) ∧ wr.heap.size = w.heap.size + 1 + 1 + 1) (fun i _ => 4 - (intOf i).toNat)
        case atStart => exact ⟨0, by omega, rfl, hbel, B0, B1, C2.out, HS.out⟩
        case round =>
          clear hbel B0 B1 C2 HS
          obtain ⟨j, hj4, rfl, hbel, B0, B1, B2, hsz⟩ := hrel
          have HS := Lib.hid hsz; clear hsz
          have htl : (T.take t).length = t := by rw [List.length_take, S64l.out]; omega
          by_cases hj : j < 4
          · obtain ⟨x, ex, lx, gx⟩ : ∃ x : Nat, x = p.getD (4 * t + j) 0 ∧ x < 256 ∧ wr.cell? ⟨b, o + (at_ + 4 * t + j), none⟩ = some (.int .u8 (x : Int)) := ⟨_, rfl, hpa.getD (by decide) _, by
              rw [Nat.add_assoc at_]; exact (hbel.cell (p := ⟨b, o + (at_ + (4 * t + j)), none⟩) hb).trans (HBP.out (4 * t + j) (by omega))⟩
            obtain ⟨y, ey, ly, gy⟩ : ∃ y : Nat, y = acc p t j ∧ y < 4294967296 ∧ wr.cell? ⟨w.heap.size + 1 + 1, t, none⟩ = some (.int .u32 (y : Int)) := ⟨_, rfl, acc_lt p t j, by
              have h := B2.w32 t (by rw [List.length_append, List.length_append, htl]; simp only [List.length_cons, List.length_nil]; omega)
              rw [List.getD_eq_getElem?_getD, List.append_assoc, List.getElem?_append_right (by omega), htl, Nat.sub_self] at h
              exact h⟩
            have fy := B2.frozen t
            have EX := Lib.hid ex; have EY := Lib.hid ey; have HT := Lib.hid htl
            clear ex ey htl
            have a0 : (0 : Int) ≤ (at_ : Int) + 4 * (t : Int) + (j : Int) := by omega
            have b0 : (at_ : Int) + 4 * (t : Int) + (j : Int) < (q.length : Int) := by omega
            have n0 : ((at_ : Int) + 4 * (t : Int) + (j : Int)).toNat = at_ + 4 * t + j := by omega
            have a1 : (0 : Int) ≤ (t : Int) := by omega
            have b1 : (t : Int) < 64 := by omega
            have m0 : IntKind.i64.wrap (4 * (t : Int)) = 4 * (t : Int) := IntWalk.i64_in _ (by omega)
            have m1 : IntKind.i64.wrap ((at_ : Int) + 4 * (t : Int)) = (at_ : Int) + 4 * (t : Int) := IntWalk.i64_in _ (by omega)
            have m2 : IntKind.i64.wrap ((at_ : Int) + 4 * (t : Int) + (j : Int)) = (at_ : Int) + 4 * (t : Int) + (j : Int) := IntWalk.i64_in _ (by omega)
            go_wp2
            go_still_tail 17, (by kernel_rfl)
            change wpList _ _ _ _ _ wr.drew
            go_wp2
            go_roundw
            case rel =>
              have e : ((y : Int) * 256 + (x : Int)) % 4294967296 = ((acc p t (j + 1) : Nat) : Int) := by
                rw [acc, ← EX.out, ← EY.out]; omega
              rw [e]
              refine ⟨j + 1, by omega, by go_num, (hbel.setCell (by show w.heap.size ≤ w.heap.size + 1 + 1; omega) _).drew, (B0.far (by show w.heap.size ≠ w.heap.size + 1 + 1; omega) _).drew, (B1.far (by show w.heap.size + 1 ≠ w.heap.size + 1 + 1; omega) _).drew, ?_, by simp [World.setCell, HS.out]⟩
              have h := (B2.set_ t (v32 (acc p t (j + 1)))).drew
              rw [c32_set _ _ _ _ _ HT.out] at h
              exact h
            case measure => simp [intOf]; omega
          · go_wp2
            go_roundw
            case rel =>
              refine ⟨t + 1, by omega, by go_num, hbel, B0, B1, ?_, HS.out⟩
              have h := B2
              rw [show j = 4 by omega, acc_four hpa, ← S64_low p t hlo, ← HT0.out] at h
              rw [show 64 - (t + 1) = 63 - t by omega, List.take_succ_eq_append_getElem (by rw [S64l.out]; omega), show T[t]'(by rw [S64l.out]; omega) = T.getD t 0 by rw [List.getD_eq_getElem?_getD, List.getElem?_eq_getElem (by rw [S64l.out]; omega)]; rfl]
              exact h
            case measure => simp [intOf]; omega)
      · (
        have cc : ∀ j, 1 ≤ j → j ≤ 16 → ∃ x : Nat, x = T.getD (t - j) 0 ∧ x < 4294967296 ∧ wr.cell? ⟨w.heap.size + 1 + 1, t - j, none⟩ = some (.int .u32 (x : Int)) := fun j hj1 hj2 => ⟨_, rfl, S64a.getD (by decide) _, by
          have h := B2.w32 (t - j) (by rw [List.length_append, List.length_take, S64l.out, List.length_replicate]; omega)
          rw [List.getD_eq_getElem?_getD, List.getElem?_append_left (by rw [List.length_take, S64l.out]; omega), ← List.getD_eq_getElem?_getD, getD_take _ _ _ (by omega)] at h
          exact h⟩
        obtain ⟨x, e0, l0, g0⟩ := cc 15 (by omega) (by omega)
        obtain ⟨y, e1, l1, g1⟩ := cc 2 (by omega) (by omega)
        obtain ⟨x16, e2, l2, g2⟩ := cc 16 (by omega) (by omega)
        obtain ⟨x7, e3, l3, g3⟩ := cc 7 (by omega) (by omega)
        have E0 := Lib.hid e0; have E1 := Lib.hid e1; have E2 := Lib.hid e2; have E3 := Lib.hid e3
        obtain ⟨z, gz⟩ : ∃ z, wr.cell? ⟨w.heap.size + 1 + 1, t, none⟩ = some z := ⟨_, B2.w32 t (by rw [List.length_append, List.length_take, S64l.out, List.length_replicate]; omega)⟩
        have f5 := B2.frozen t
        clear e0 e1 e2 e3 cc
        have t15 : ((t : Int) - 15).toNat = t - 15 := by omega
        have t2 : ((t : Int) - 2).toNat = t - 2 := by omega
        have t16 : ((t : Int) - 16).toNat = t - 16 := by omega
        have t7 : ((t : Int) - 7).toNat = t - 7 := by omega
        have a15 : (0 : Int) ≤ (t : Int) - 15 := by omega
        have a2 : (0 : Int) ≤ (t : Int) - 2 := by omega
        have a16 : (0 : Int) ≤ (t : Int) - 16 := by omega
        have a7 : (0 : Int) ≤ (t : Int) - 7 := by omega
        have an : (0 : Int) ≤ (t : Int) := by omega
        have b15 : (t : Int) - 15 < 64 := by omega
        have b2 : (t : Int) - 2 < 64 := by omega
        have b16 : (t : Int) - 16 < 64 := by omega
        have b7 : (t : Int) - 7 < 64 := by omega
        have bn : (t : Int) < 64 := by omega
        have q16 : (16 : Int) ≤ (t : Int) := by omega
        have q7 : (7 : Int) ≤ (t : Int) := by omega
        have m15 : IntKind.i64.wrap ((t : Int) - 15) = (t : Int) - 15 := IntWalk.i64_in _ (by omega)
        have m2 : IntKind.i64.wrap ((t : Int) - 2) = (t : Int) - 2 := IntWalk.i64_in _ (by omega)
        have m16 : IntKind.i64.wrap ((t : Int) - 16) = (t : Int) - 16 := IntWalk.i64_in _ (by omega)
        have m7 : IntKind.i64.wrap ((t : Int) - 7) = (t : Int) - 7 := IntWalk.i64_in _ (by omega)
        have d1 : decide ((t : Int) < 64) = true := decide_eq_true (by omega)
        have d2 : decide ((t : Int) < 16) = false := decide_eq_false (by omega)
        go_wp2_with (first
          | (go_at_call 43; (with_reducible refine (rround_7 x _ l0).mono ?_); rintro e w' ⟨rfl, rfl⟩)
          | (go_at_call 43; (with_reducible refine (rround_18 x _ l0).mono ?_); rintro e w' ⟨rfl, rfl⟩)
          | (go_at_call 43; (with_reducible refine (rround_17 y _ l1).mono ?_); rintro e w' ⟨rfl, rfl⟩)
          | (go_at_call 43; (with_reducible refine (rround_19 y _ l1).mono ?_); rintro e w' ⟨rfl, rfl⟩))
        go_still_tail 15, (by kernel_rfl)
        change wpList _ _ _ _ _ wr.drew
        go_wp2
        go_roundw
        case rel =>
          rw [sg0_int x l0, sg1_int y l1]
          have e : ((x16 : Int) + ((sg0 x : Nat) : Int) + (x7 : Int) + ((sg1 y : Nat) : Int)) % 4294967296 = ((T.getD t 0 : Nat) : Int) := by
            rw [HT0.out, S64_high p t (by omega) hlt, ← HT0.out, ← E0.out, ← E1.out, ← E2.out, ← E3.out]
            omega
          rw [e]
          refine ⟨t + 1, by omega, by go_num, (hbel.setCell (by show w.heap.size ≤ w.heap.size + 1 + 1; omega) _).drew, (B0.far (by show w.heap.size ≠ w.heap.size + 1 + 1; omega) _).drew, (B1.far (by show w.heap.size + 1 ≠ w.heap.size + 1 + 1; omega) _).drew, ?_, by simp [World.setCell, HS.out]⟩
          have h := (B2.set_ t (v32 (T.getD t 0))).drew
          rw [show 64 - t = (64 - (t + 1)) + 1 by omega, c32_push _ _ _ _ (by rw [List.length_take, S64l.out]; omega)] at h
          rw [List.take_succ_eq_append_getElem (by rw [S64l.out]; omega), show T[t]'(by rw [S64l.out]; omega) = T.getD t 0 by rw [List.getD_eq_getElem?_getD, List.getElem?_eq_getElem (by rw [S64l.out]; omega)]; rfl]
          exact h
        case measure => simp [intOf]; omega)
    · have C2 : Hid (Blk wr (w.heap.size + 1 + 1) 71 (c32 T)) := by
        have h := B2
        rw [show 64 - t = 0 by omega, List.replicate_zero, List.append_nil, List.take_of_length_le (by rw [S64l.out]; omega)] at h
        exact h
      clear B2
      have d1 : decide ((t : Int) < 64) = false := decide_eq_false (by omega)
      have nz : ∀ i, i < 8 → ∃ x : Nat, x = r.getD i 0 ∧ x < 4294967296 ∧ wr.cell? ⟨w.heap.size, i, none⟩ = some (.int .u32 (x : Int)) := fun i hi => ⟨_, rfl, hra.getD (by decide) i, B0.w32 i (by rw [HR.out]; omega)⟩
      obtain ⟨y0, ey0, ly0, z0⟩ := nz 0 (by omega)
      obtain ⟨y1, ey1, ly1, z1⟩ := nz 1 (by omega)
      obtain ⟨y2, ey2, ly2, z2⟩ := nz 2 (by omega)
      obtain ⟨y3, ey3, ly3, z3⟩ := nz 3 (by omega)
      obtain ⟨y4, ey4, ly4, z4⟩ := nz 4 (by omega)
      obtain ⟨y5, ey5, ly5, z5⟩ := nz 5 (by omega)
      obtain ⟨y6, ey6, ly6, z6⟩ := nz 6 (by omega)
      obtain ⟨y7, ey7, ly7, z7⟩ := nz 7 (by omega)
      clear nz
      have EY0 := Lib.hid ey0; clear ey0
      have EY1 := Lib.hid ey1; clear ey1
      have EY2 := Lib.hid ey2; clear ey2
      have EY3 := Lib.hid ey3; clear ey3
      have EY4 := Lib.hid ey4; clear ey4
      have EY5 := Lib.hid ey5; clear ey5
      have EY6 := Lib.hid ey6; clear ey6
      have EY7 := Lib.hid ey7; clear ey7
      go_wp2
      have B3 : Blk (wr.alloc (.cells #[.int .u32 y0, .int .u32 y1, .int .u32 y2, .int .u32 y3, .int .u32 y4, .int .u32 y5, .int .u32 y6, .int .u32 y7] 46)) (w.heap.size + 1 + 1 + 1) 46 (c32 r) := by
        have h := Blk.new_ wr 46 (c32 r) _ HS.out
        have e : c32 r = #[.int .u32 y0, .int .u32 y1, .int .u32 y2, .int .u32 y3, .int .u32 y4, .int .u32 y5, .int .u32 y6, .int .u32 y7] := by
          rw [EY0.out, EY1.out, EY2.out, EY3.out, EY4.out, EY5.out, EY6.out, EY7.out]
          exact c32_eight r HR.out
        rw [← e]
        exact h
      have hbel' := hbel.alloc (by rw [HS.out]; omega) (.cells #[.int .u32 y0, .int .u32 y1, .int .u32 y2, .int .u32 y3, .int .u32 y4, .int .u32 y5, .int .u32 y6, .int .u32 y7] 46)
      have B0' := B0.alloc (.cells #[.int .u32 y0, .int .u32 y1, .int .u32 y2, .int .u32 y3, .int .u32 y4, .int .u32 y5, .int .u32 y6, .int .u32 y7] 46)
      have B1' := B1.alloc (.cells #[.int .u32 y0, .int .u32 y1, .int .u32 y2, .int .u32 y3, .int .u32 y4, .int .u32 y5, .int .u32 y6, .int .u32 y7] 46)
      have C2' := Lib.hid (C2.out.alloc (.cells #[.int .u32 y0, .int .u32 y1, .int .u32 y2, .int .u32 y3, .int .u32 y4, .int .u32 y5, .int .u32 y6, .int .u32 y7] 46))
      rw [HS.out]
      clear z0 z1 z2 z3 z4 z5 z6 z7 hbel B0 B1 C2
      generalize (wr.alloc (.cells #[.int .u32 y0, .int .u32 y1, .int .u32 y2, .int .u32 y3, .int .u32 y4, .int .u32 y5, .int .u32 y6, .int .u32 y7] 46)) = wo at *
      go_loopw [15] (fun i wr => ∃ m : Nat, m ≤ 64 ∧ i = .int .i64 m ∧ (∃ R : List Nat, R = regs r T m ∧ Blk wr (w.heap.size + 1 + 1 + 1) 46 (c32 R)) ∧ Below w.heap.size w wr ∧ Blk wr w.heap.size 46 (c32 r) ∧ Blk wr (w.heap.size + 1) 46 (c32 (List.replicate 8 0)) ∧ Blk wr (w.heap.size + 1 + 1) 71 (c32 T)) (fun i _ => 64 - (intOf i).toNat)
      case atStart => exact ⟨0, by omega, rfl, ⟨r, rfl, B3⟩, hbel', B0', B1', C2'.out⟩
      case round =>
        clear hbel' B0' B1' C2' B3
        obtain ⟨m, hm, rfl, ⟨R, hR, B3⟩, hbel, B0, B1, B2⟩ := hrel
        have hRa : All 4294967296 R := hR ▸ regs_all hra m
        have hRl : R.length = 8 := hR ▸ regs_len HR.out m
        have nm : ∀ i, i < 8 → ∃ x : Nat, x = R.getD i 0 ∧ x < 4294967296 ∧ wr.cell? ⟨w.heap.size + 1 + 1 + 1, i, none⟩ = some (.int .u32 (x : Int)) := fun i hi => ⟨_, rfl, hRa.getD (by decide) i, B3.w32 i (by omega)⟩
        have HRR := Lib.hid hR
        have HRL := Lib.hid hRl
        obtain ⟨A, eA, lA, g0⟩ := nm 0 (by omega)
        obtain ⟨B, eB, lB, g1⟩ := nm 1 (by omega)
        obtain ⟨C, eC, lC, g2⟩ := nm 2 (by omega)
        obtain ⟨D, eD, lD, g3⟩ := nm 3 (by omega)
        obtain ⟨E, eE, lE, g4⟩ := nm 4 (by omega)
        obtain ⟨F, eF, lF, g5⟩ := nm 5 (by omega)
        obtain ⟨G, eG, lG, g6⟩ := nm 6 (by omega)
        obtain ⟨K, eK, lK, g7⟩ := nm 7 (by omega)
        have EA := Lib.hid eA; have EB := Lib.hid eB; have EC := Lib.hid eC; have ED := Lib.hid eD; have EE := Lib.hid eE; have EF := Lib.hid eF; have EG := Lib.hid eG; have EK := Lib.hid eK
        clear nm eA eB eC eD eE eF eG eK hR hRl
        by_cases hlt3 : m < 64
        · (
          have f0 := B3.frozen 0; have f1 := B3.frozen 1; have f2 := B3.frozen 2; have f3 := B3.frozen 3
          have f4 := B3.frozen 4; have f5 := B3.frozen 5; have f6 := B3.frozen 6; have f7 := B3.frozen 7
          obtain ⟨kt, ekt⟩ : ∃ x : Nat, x = roots.getD m 0 := ⟨_, rfl⟩
          obtain ⟨ww, eww⟩ : ∃ x : Nat, x = T.getD m 0 := ⟨_, rfl⟩
          have lk : kt < 4294967296 := ekt ▸ roots_all.getD (by decide) m
          have lw : ww < 4294967296 := eww ▸ S64a.getD (by decide) m
          have gk : wr.cell? ⟨2, m, none⟩ = some (.int .u32 (kt : Int)) := by rw [hbel.cell (p := ⟨2, m, none⟩) h2, ht m hlt3, ekt]; rfl
          have gw : wr.cell? ⟨w.heap.size + 1 + 1, m, none⟩ = some (.int .u32 (ww : Int)) := by rw [B2.w32 m (by rw [S64l.out]; omega), eww]
          have EK' := Lib.hid ekt; have EW := Lib.hid eww
          clear ekt eww
          have am : (0 : Int) ≤ (m : Int) := by omega
          have bm : (m : Int) < 64 := by omega
          have dm : decide ((m : Int) < 64) = true := decide_eq_true bm
          go_wp2
          go_quiet (fail)
          go_wp2
          go_quiet (first
            | (go_at_call 43; with_reducible exact quiet_left (rround_6 E _ lE))
            | (go_at_call 43; with_reducible exact quiet_left (rround_11 E _ lE))
            | (go_at_call 43; with_reducible exact quiet_left (rround_25 E _ lE))
            | (go_at_call 43; with_reducible exact quiet_add_left (rround_6 E _ lE))
            | (go_at_call 43; with_reducible exact quiet_add_left (rround_11 E _ lE))
            | (go_at_call 43; with_reducible exact quiet_add_left (rround_25 E _ lE)))
          go_wp2_with (first
            | (go_at_call 43; (with_reducible refine (rround_2 A _ lA).mono ?_); rintro e w' ⟨rfl, rfl⟩)
            | (go_at_call 43; (with_reducible refine (rround_13 A _ lA).mono ?_); rintro e w' ⟨rfl, rfl⟩)
            | (go_at_call 43; (with_reducible refine (rround_22 A _ lA).mono ?_); rintro e w' ⟨rfl, rfl⟩))
          go_roundw
          case rel =>
            rw [bg1_int E lE, cho_int' E F G lE lF lG, bg0_int A lA, maj_int A B C lA lB lC]
            have e0 : ((K : Int) + ((bg1 E : Nat) : Int) + ((cho E F G : Nat) : Int) + (kt : Int) + (ww : Int) + (((bg0 A : Nat) : Int) + ((maj A B C : Nat) : Int))) % 4294967296 = ((((stepU R (roots.getD m 0) (T.getD m 0) + stepV R) % 4294967296 : Nat)) : Int) := by
              unfold stepU stepV
              rw [← EA.out, ← EB.out, ← EC.out, ← EE.out, ← EF.out, ← EG.out, ← EK.out, ← EK'.out, ← EW.out]
              omega
            have e4 : ((D : Int) + ((K : Int) + ((bg1 E : Nat) : Int) + ((cho E F G : Nat) : Int) + (kt : Int) + (ww : Int))) % 4294967296 = (((R.getD 3 0 + stepU R (roots.getD m 0) (T.getD m 0)) % 4294967296 : Nat) : Int) := by
              unfold stepU
              rw [← ED.out, ← EE.out, ← EF.out, ← EG.out, ← EK.out, ← EK'.out, ← EW.out]
              omega
            rw [e0, e4]
            refine ⟨m + 1, by omega, by go_num, ⟨stepR R (roots.getD m 0) (T.getD m 0), by rw [HRR.out]; rfl, ?_⟩, below_eight (below_drewN hbel _) (by omega) _ _ _ _ _ _ _ _, (B0.drewN _).far_eight (by omega) _ _ _ _ _ _ _ _, (B1.drewN _).far_eight (by omega) _ _ _ _ _ _ _ _, (B2.drewN _).far_eight (by omega) _ _ _ _ _ _ _ _⟩
            rw [EA.out, EB.out, EC.out, EE.out, EF.out, EG.out]
            exact (B3.drewN _).eight (by simp [c32, HRL.out]) _ _ _ _ _ _ _ _
          case measure => simp [intOf]; omega)
        · have HRF : Hid (R = regs r T 64) := by rw [HRR.out, show m = 64 by omega]; exact rfl
          have hge3 : 64 ≤ m := by omega
          clear g0 g1 g2 g3 g4 g5 g6 g7 HRR EA EB EC ED EE EF EG EK lA lB lC lD lE lF lG lK A B C D E F G K B2 hlt3
          have hHL : Hid ((addR r R).length = 8) := addR_len r R
          obtain ⟨L, hL⟩ : ∃ L, L = addR r R := ⟨_, rfl⟩
          rw [← hL] at hHL
          have HL := Lib.hid hL
          clear hL
          go_wp2
          obtain ⟨wo3, rfl⟩ : ∃ wo3 : World, wo3 = wr := ⟨_, rfl⟩
          go_loopw [22] (fun i wr => ∃ k : Nat, k ≤ 8 ∧ i = .int .i64 k ∧ Blk wr (w.heap.size + 1 + 1 + 1) 46 (c32 (L.take k ++ R.drop k)) ∧ Below w.heap.size w wr ∧ Blk wr w.heap.size 46 (c32 r) ∧ Blk wr (w.heap.size + 1) 46 (c32 (List.replicate 8 0))) (fun i _ => 8 - (intOf i).toNat)
          case atStart => exact ⟨0, by omega, rfl, B3, hbel, B0, B1⟩
          case round =>
            clear hbel B0 B1 B3
            obtain ⟨k, hk, rfl, B3, hbel, B0, B1⟩ := hrel
            by_cases hlt4 : k < 8
            · (
              obtain ⟨x, ex, lx, gx⟩ : ∃ x : Nat, x = R.getD k 0 ∧ x < 4294967296 ∧ wr.cell? ⟨w.heap.size + 1 + 1 + 1, k, none⟩ = some (.int .u32 (x : Int)) := ⟨_, rfl, hRa.getD (by decide) _, by
                have h := B3.w32 k (by rw [List.length_append, List.length_take, List.length_drop, hHL.out, HRL.out]; omega)
                rw [List.getD_eq_getElem?_getD, List.getElem?_append_right (by rw [List.length_take, hHL.out]; omega), List.length_take, hHL.out, List.getElem?_drop, show k + (k - min k 8) = k by omega, ← List.getD_eq_getElem?_getD] at h
                exact h⟩
              obtain ⟨y, ey, ly, gy⟩ : ∃ y : Nat, y = r.getD k 0 ∧ y < 4294967296 ∧ wr.cell? ⟨w.heap.size, k, none⟩ = some (.int .u32 (y : Int)) := ⟨_, rfl, hra.getD (by decide) _, B0.w32 k (by rw [HR.out]; omega)⟩
              have EX := Lib.hid ex; have EY := Lib.hid ey
              clear ex ey
              have fx := B3.frozen k
              have ak : (0 : Int) ≤ (k : Int) := by omega
              have bk : (k : Int) < 8 := by omega
              have dk : decide ((k : Int) < 8) = true := decide_eq_true bk
              go_wp2
              go_still_tail 9, (by kernel_rfl)
              change wpList _ _ _ _ _ wr.drew
              go_wp2
              go_roundw
              case rel =>
                have e : ((x : Int) + (y : Int)) % 4294967296 = ((L.getD k 0 : Nat) : Int) := by
                  rw [HL.out, show (addR r R).getD k 0 = (r.getD k 0 + R.getD k 0) % 4294967296 by simp [addR, List.getD_eq_getElem?_getD, hlt4], ← EX.out, ← EY.out]
                  omega
                rw [e]
                refine ⟨k + 1, by omega, by go_num, ?_, (hbel.setCell (by show w.heap.size ≤ w.heap.size + 1 + 1 + 1; omega) _).drew, (B0.far (by show w.heap.size ≠ w.heap.size + 1 + 1 + 1; omega) _).drew, (B1.far (by show w.heap.size + 1 ≠ w.heap.size + 1 + 1 + 1; omega) _).drew⟩
                have h := (B3.set_ k (v32 (L.getD k 0))).drew
                rw [add_take L R k (by rw [hHL.out]; omega) (by rw [hHL.out, HRL.out])] at h
                exact h
              case measure => simp [intOf]; omega)
            · have hge4 : 8 ≤ k := by omega
              have B3' : Blk wr (w.heap.size + 1 + 1 + 1) 46 (c32 L) := by
                have h := B3
                rw [List.take_of_length_le (by rw [hHL.out]; omega), List.drop_eq_nil_of_le (by rw [HRL.out]; omega), List.append_nil] at h
                exact h
              clear B3
              have nx : ∀ i, i < 8 → ∃ v : Value, v = .int .u32 (L.getD i 0 : Nat) ∧ wr.cell? ⟨w.heap.size + 1 + 1 + 1, i, none⟩ = some v ∧ v.oneCell' = true := fun i hi => ⟨_, rfl, B3'.w32 i (by rw [hHL.out]; omega), rfl⟩
              have q : ∀ i, i < 8 → wr.cell? ⟨w.heap.size + 1, i, none⟩ = some (.int .u32 0) := fun j hj => by
                rw [B1.w32 j (by rw [List.length_replicate]; omega), List.getD_eq_getElem?_getD, List.getElem?_replicate, if_pos hj]
                rfl
              have q0 := q 0 (by omega); have q1 := q 1 (by omega); have q2 := q 2 (by omega); have q3 := q 3 (by omega)
              have q4 := q 4 (by omega); have q5 := q 5 (by omega); have q6 := q 6 (by omega); have q7 := q 7 (by omega)
              have s0 := B1.frozen 0; have s1 := B1.frozen 1; have s2 := B1.frozen 2; have s3 := B1.frozen 3
              have s4 := B1.frozen 4; have s5 := B1.frozen 5; have s6 := B1.frozen 6; have s7 := B1.frozen 7
              clear q
              have ny : ∀ i, i < 8 → ∃ x : Nat, x = L.getD i 0 ∧ wr.cell? ⟨w.heap.size + 1 + 1 + 1, i, none⟩ = some (.int .u32 (x : Int)) := fun i hi => ⟨_, rfl, B3'.w32 i (by rw [hHL.out]; omega)⟩
              clear nx
              obtain ⟨u0_, k0, c0⟩ := ny 0 (by omega)
              obtain ⟨u1_, k1, c1⟩ := ny 1 (by omega)
              obtain ⟨u2_, k2, c2⟩ := ny 2 (by omega)
              obtain ⟨u3_, k3, c3⟩ := ny 3 (by omega)
              obtain ⟨u4_, k4, c4⟩ := ny 4 (by omega)
              obtain ⟨u5_, k5, c5⟩ := ny 5 (by omega)
              obtain ⟨u6_, k6, c6⟩ := ny 6 (by omega)
              obtain ⟨u7_, k7, c7⟩ := ny 7 (by omega)
              clear ny
              have K0 := Lib.hid k0; have K1 := Lib.hid k1; have K2 := Lib.hid k2; have K3 := Lib.hid k3
              have K4 := Lib.hid k4; have K5 := Lib.hid k5; have K6 := Lib.hid k6; have K7 := Lib.hid k7
              clear k0 k1 k2 k3 k4 k5 k6 k7
              go_wp2
              have hB := B1.eight (by rfl) (.int .u32 (u0_ : Int)) (.int .u32 (u1_ : Int)) (.int .u32 (u2_ : Int)) (.int .u32 (u3_ : Int)) (.int .u32 (u4_ : Int)) (.int .u32 (u5_ : Int)) (.int .u32 (u6_ : Int)) (.int .u32 (u7_ : Int))
              have hBel := below_eight hbel (g := w.heap.size + 1) (by omega) (.int .u32 (u0_ : Int)) (.int .u32 (u1_ : Int)) (.int .u32 (u2_ : Int)) (.int .u32 (u3_ : Int)) (.int .u32 (u4_ : Int)) (.int .u32 (u5_ : Int)) (.int .u32 (u6_ : Int)) (.int .u32 (u7_ : Int))
              have e : turn r p = L := by
                rw [HL.out, HRF.out, HT0.out]; rfl
              have eL := c32_eight L hHL.out
              rw [← K0.out, ← K1.out, ← K2.out, ← K3.out, ← K4.out, ← K5.out, ← K6.out, ← K7.out] at eL
              rw [e, eL]
              exact bodyPost_ret (results_cell_row rfl _ _ (w.heap.size + 1) 46 _ (0, 0) _ rfl hB Tryd.underlying46 rfl (by kernel_rfl)) rfl ⟨rfl, hBel⟩
theorem Only.below {w w' : World} {B g : Nat} {a : World} (O : Only g w w') (h : Below B a w) (hg : B ≤ g) : Below B a w' :=
  h.trans ⟨O.os, O.tape, O.output, by rw [O.size]; exact Nat.le_refl _, fun k hk => O.block k (by omega)⟩
theorem Only.drew {w w' : World} {g : Nat} (O : Only g w w') : Only g w.drew w' := ⟨O.os, O.tape, O.output, O.size, O.block⟩
section
variable {P : Program} {w : World} {ops : Array Oper} {rest : List Oper} {o : Oper} {a : Act} {Q : Exit → Act → World → Prop}
theorem range_of_blk {g t : Nat} {pre mid post : List Value} (h : Blk w g t (pre ++ mid ++ post).toArray) : w.rangeAt g pre.length mid := by
  intro j v hv
  rw [h.cell]
  have hj := (List.getElem?_eq_some_iff.1 hv).1
  simp only [List.getElem?_toArray]
  rw [List.append_assoc, List.getElem?_append_right (by omega), Nat.add_sub_cancel_left, List.getElem?_append_left hj]
  exact hv
theorem wpl_load (hgd : o.guard = none) (ty : TypeId) (x : Operand) (ho : o.op = .load ty x) (g off : Nat) (hx : a.eval x = .pointer (some ⟨g, off, none⟩)) (t : TypeId) (pre mid post : List Value)
    (hB : Blk w g t (pre ++ mid ++ post).toArray) (hoff : pre.length = off) (d : TypeDesc) (hu : P.underlying ty = some d) (hd : d.isRow = true) (hi : (P.info? ty).map (·.size) = some mid.length)
    (h : wpList P ops Q rest (a.put o.dst (.agg mid.toArray)) w) : wpList P ops Q (o :: rest) a w :=
  wpList_load_mid hgd ty x ho g off hx mid d (hoff ▸ range_of_blk hB) hu hd hi h
theorem run_storeVar_blk (g off : Nat) (ty t : TypeId) (pre mid post new : List Value) (hB : Blk w g t (pre ++ mid ++ post).toArray) (hoff : pre.length = off) (hn : new.length = mid.length)
    (hi : (P.info? ty).map (·.size) = some new.length) (h1 : ∀ v ∈ new, v.oneCell' = true) :
    (storeVar ty ⟨g, off, none⟩ (.agg new.toArray)).run P w = .ok () (w.setRow g (pre ++ new ++ post).toArray) := by
  have hs := run_storeCells_at P g off t new 0 (pre ++ mid ++ post).toArray w hB (by simp only [List.size_toArray, List.length_append]; omega) h1
  have e : List.take off (pre ++ mid ++ post) ++ new ++ List.drop (off + new.length) (pre ++ mid ++ post) = pre ++ new ++ post := by
    rw [List.append_assoc pre mid post, List.take_left' hoff, ← List.append_assoc pre mid post, List.drop_left' (by rw [List.length_append]; omega)]
  simp only [Nat.add_zero, e] at hs
  cases hq : P.info? ty with
  | none => simp [hq] at hi
  | some i =>
    have hsz : i.size = new.length := by simpa [hq] using hi
    simp [storeVar, sizeOf, typeInfo, hq, Value.cells, hsz, hs]
theorem wpl_store (hgd : o.guard = none) (ty : TypeId) (x y : Operand) (ho : o.op = .store ty x y) (g off : Nat) (hx : a.eval x = .pointer (some ⟨g, off, none⟩)) (t : TypeId) (pre mid post new : List Value)
    (hy : a.eval y = .agg new.toArray) (hB : Blk w g t (pre ++ mid ++ post).toArray) (hoff : pre.length = off) (hn : new.length = mid.length) (hi : (P.info? ty).map (·.size) = some new.length)
    (h1 : ∀ v ∈ new, v.oneCell' = true) (h : ∀ w', Blk w' g t (pre ++ new ++ post).toArray → Only g w w' → wpList P ops Q rest (a.put o.dst undef) w') : wpList P ops Q (o :: rest) a w := by
  refine wpList_plain hgd fun _ hK => ?_
  unfold Oper.wp execOp
  simp only [ho, hx, hy, Instr.storeAt, Instr.sureAddr, Sem.run_bind, Sem.run_pure, Result.andThen_ok, run_storeVar_blk g off ty t pre mid post new hB hoff hn hi h1]
  exact hK _ _ (h _ (setRow_heap w g _ _ t _ hB) (Only.setRow w g _))
theorem wpl_copy (hgd : o.guard = none) (d s : Operand) (dT sT : TypeId) (ho : o.op = .call { callee := .builtin .copy, args := #[d, s], argTypes := #[dT, sT] }) (elem : TypeId)
    (hu : P.underlying dT = some (.slice elem)) (hsz : (P.info? elem).map (·.size) = some 1) (dp sp : Option Addr) (dLen dCap sLen sCap : Nat) (hd : a.eval d = .slice dp dLen dCap) (hs : a.eval s = .slice sp sLen sCap)
    (g off : Nat) (t : TypeId) (pre mid post new : List Value) (hB : Blk w g t (pre ++ mid ++ post).toArray) (hoff : pre.length = off) (hn : new.length = mid.length) (hmin : new.length = Nat.min sLen dLen)
    (hpos : 0 < new.length → dp = some ⟨g, off, none⟩ ∧ ∃ ad, sp = some ad ∧ ∀ j v, new[j]? = some v → w.cell? (ad.add j) = some v) (h1 : ∀ v ∈ new, v.oneCell' = true)
    (h : ∀ w', Blk w' g t (pre ++ new ++ post).toArray → Only g w w' → wpList P ops Q rest (a.put o.dst (goInt new.length)) w') : wpList P ops Q (o :: rest) a w := by
  by_cases h0 : new.length = 0
  · obtain rfl : new = [] := List.eq_nil_of_length_eq_zero h0
    obtain rfl : mid = [] := List.eq_nil_of_length_eq_zero (by rw [← hn]; rfl)
    refine wpList_copy_nothing hgd d s dT sT ho elem hu hsz dp sp dLen dCap sLen sCap hd hs (by simpa using hmin.symm) ?_
    exact h w hB ⟨rfl, rfl, rfl, rfl, fun _ _ => rfl⟩
  · obtain ⟨rfl, ad, rfl, hsrc⟩ := hpos (by omega)
    refine wpList_copy_own hgd d s dT sT ho elem hu hsz g off dLen dCap ad sLen sCap hd hs (pre ++ mid ++ post).toArray t hB new hmin hsrc (by simp only [List.size_toArray, List.length_append]; omega) h1 ?_
    have e : List.take off (pre ++ mid ++ post) ++ (new ++ List.drop (off + new.length) (pre ++ mid ++ post)) = pre ++ new ++ post := by
      rw [List.append_assoc pre mid post, List.take_left' hoff, ← List.append_assoc pre mid post, List.drop_left' (by rw [List.length_append]; omega), List.append_assoc]
    rw [List.toList_toArray, e]
    exact h _ (setRow_heap w g _ _ t _ hB) (Only.setRow w g _)
end
theorem one32 : ∀ (l : List Nat), ∀ v ∈ l.map v32, v.oneCell' = true := by
  intro l v hv
  obtain ⟨x, _, rfl⟩ := List.mem_map.1 hv
  rfl
theorem c32_blk (l : List Nat) : c32 l = ([] ++ l.map v32 ++ ([] : List Value)).toArray := by simp [c32]
theorem Tab2.below {w w' : World} {B : Nat} (h : Tab2 w) (hb : Below B w w') (hB : 2 < B) : Tab2 w' := fun j hj => (hb.cell (p := ⟨2, j, none⟩) hB).trans (h j hj)
theorem Tab1.below {w w' : World} {B : Nat} (h : Tab1 w) (hb : Below B w w') (hB : 1 < B) : Tab1 w' := fun j hj => (hb.cell (p := ⟨1, j, none⟩) hB).trans (h j hj)
set_option maxRecDepth 100000 in
set_option maxHeartbeats 400000 in
theorem rblocks_any (r q : List Nat) (A : Option Addr) (c : Nat) (w : World) (hr : r.length = 8) (hra : All 4294967296 r) (hq2 : q.length ≤ 140737488355328) (hqa : All 256 q)
    (hbs : C8 w A q.length q) (ht : Tab2 w) (h2 : 2 < w.heap.size) :
    Calls Tryd.prog 33 #[.agg (c32 r), .slice A q.length c] w fun e w' => e = .returned (.agg (c32 (blocks r q (q.length / 64)))) ∧ Below w.heap.size w w' := by
  have main : (q.length < 64 ∨ ∃ b o, A = some ⟨b, o, none⟩ ∧ b < w.heap.size ∧ Bs w b o q) := by
    rcases Nat.lt_or_ge q.length 64 with h | h
    · exact .inl h
    · exact .inr (hbs.at_ (by omega))
  have HR := Lib.hid hr
  clear hr hbs
  obtain ⟨N, hN⟩ : ∃ N, N = q.length := ⟨_, rfl⟩
  go_enter Tryd.func33, Tryd.ntmps33
  go_wp2
  go_loopw [5] (fun i wr => ∃ k : Nat, k ≤ q.length / 64 ∧ i = .int .i64 (64 * (k : Int)) ∧ Below w.heap.size w wr ∧ Blk wr w.heap.size 46 (c32 (blocks r q k)) ∧ Blk wr (w.heap.size + 1) 46 (c32 (List.replicate 8 0))) (fun i _ => q.length - (intOf i).toNat)
  case atStart => exact ⟨0, by omega, rfl, ((Below.refl _ _).alloc (Nat.le_refl _) _).alloc (by simp) _, (Blk.new w 46 (c32 r)).alloc _, Blk.new_ (w.alloc _) 46 (c32 (List.replicate 8 0)) _ (by simp)⟩
  case round =>
    obtain ⟨k, hk, rfl, hbel, B0, B1⟩ := hrel
    have hRl := Lib.hid (blocks_len HR.out q k)
    have hRa := blocks_all hra q k
    obtain ⟨R, hR⟩ : ∃ R, R = blocks r q k := ⟨_, rfl⟩
    rw [← hR] at hRl hRa B0
    have HRk := Lib.hid hR
    clear hR
    have CB := Lib.hid ((c32_blk R) ▸ B0)
    by_cases hlt : 64 * k + 64 ≤ q.length
    · have hb1 : 64 * (k : Int) + 64 ≤ (q.length : Int) := by omega
      rcases main with hm | ⟨b, o, rfl, hb, hbs⟩
      · omega
      · have hcall : Calls Tryd.prog 39 #[.agg (R.map v32).toArray, .slice (some ⟨b, o, none⟩) q.length c, .int .i64 (64 * (k : Int))] wr (fun e w' => e = .returned (.agg (c32 (turn R ((q.drop (64 * k)).take 64)))) ∧ Below wr.heap.size wr w') := by
          have h := rturn_any R q b o c (64 * k) wr hRl.out hRa (by omega) hq2 hqa (hbs.below hbel hb) (by have := hbel.size; omega) (ht.below hbel h2) (by have := hbel.size; omega)
          rw [show ((64 * k : Nat) : Int) = 64 * (k : Int) by omega] at h
          exact h
        obtain ⟨T, hT⟩ : ∃ T, T = turn R ((q.drop (64 * k)).take 64) := ⟨_, rfl⟩
        have hTl : T.length = 8 := by rw [hT]; exact turn_len _ _
        rw [← hT] at hcall
        have HT := Lib.hid hT; have HTl := Lib.hid hTl
        clear hT hTl
        go_wp2_with (first
          | (refine wpl_load rfl 46 _ rfl w.heap.size 0 rfl 46 [] (R.map v32) [] CB.out rfl _ Tryd.underlying46 rfl (by rw [List.length_map, hRl.out]; kernel_rfl) ?_)
          | (go_at_call 39; (with_reducible refine hcall.mono ?_); rintro e w1 ⟨rfl, hb1⟩)
          | (refine wpl_store rfl 46 _ _ rfl w.heap.size 0 rfl 46 [] (R.map v32) [] (T.map v32) rfl (Blk.below CB.out hb1 B0.lt) rfl (by rw [List.length_map, List.length_map, HTl.out, hRl.out]) (by rw [List.length_map, HTl.out]; kernel_rfl) (one32 T) ?_; intro w2 B2 O2))
        go_roundw
        case rel =>
          refine ⟨k + 1, by omega, by go_num, O2.below (hbel.trans (hb1.mono hbel.size)) (Nat.le_refl _), ?_, (B1.below hb1 B1.lt).only O2 (by omega)⟩
          rw [blocks, ← HRk.out, ← HT.out, c32_blk]
          exact B2
        case measure => simp [intOf]; omega
    · have hge : (q.length : Int) < 64 * (k : Int) + 64 := by omega
      have hB1 := Lib.hid ((c32_blk (List.replicate 8 0)) ▸ B1)
      clear main
      go_wp2_with (first
        | (refine wpl_load rfl 46 _ rfl w.heap.size 0 rfl 46 [] (R.map v32) [] CB.out rfl _ Tryd.underlying46 rfl (by rw [List.length_map, hRl.out]; kernel_rfl) ?_)
        | (refine wpl_store rfl 46 _ _ rfl (w.heap.size + 1) 0 rfl 46 [] ((List.replicate 8 0).map v32) [] (R.map v32) rfl hB1.out rfl (by rw [List.length_map, hRl.out]; rfl) (by rw [List.length_map, hRl.out]; kernel_rfl) (one32 R) ?_; intro w2 B2 O2))
      have e : blocks r q (q.length / 64) = R := by rw [HRk.out, show k = q.length / 64 by omega]
      rw [e]
      exact bodyPost_ret (results_cell_row rfl _ _ (w.heap.size + 1) 46 (c32 R) (0, 0) _ rfl (by rw [c32_blk]; exact B2) Tryd.underlying46 rfl (by rw [show (c32 R).size = 8 by simp [c32, hRl.out]]; kernel_rfl)) rfl ⟨rfl, O2.below hbel (by omega)⟩
theorem bytesW_at (x j : Nat) (h : j < 4) : (bytesW x)[j]? = some (x / 2 ^ (24 - 8 * j) % 256) := by
  match j, h with
  | 0, _ => rfl
  | 1, _ => rfl
  | 2, _ => rfl
  | 3, _ => simp [bytesW]
theorem bytesW_take (x j : Nat) (h : j < 4) : (bytesW x).take (j + 1) = (bytesW x).take j ++ [x / 2 ^ (24 - 8 * j) % 256] := by
  have h1 := bytesW_at x j h
  obtain ⟨hj, e⟩ := List.getElem?_eq_some_iff.1 h1
  rw [List.take_succ_eq_append_getElem hj, e]
theorem bytesR_take (r : List Nat) (k : Nat) (h : k < r.length) : bytesR (r.take (k + 1)) = bytesR (r.take k) ++ bytesW (r.getD k 0) := by
  unfold bytesR
  rw [List.take_succ_eq_append_getElem h, List.flatMap_append, List.getD_eq_getElem?_getD, List.getElem?_eq_getElem h]
  simp
theorem bytesR_len : ∀ r : List Nat, (bytesR r).length = 4 * r.length
  | [] => rfl
  | x :: r => by
    have := bytesR_len r
    unfold bytesR at this ⊢
    rw [List.flatMap_cons, List.length_append, this, List.length_cons]
    show 4 + _ = _
    omega
theorem bytesW_all (x : Nat) : All 256 (bytesW x) := by
  intro y hy
  simp only [bytesW, List.mem_cons, List.not_mem_nil, or_false] at hy
  rcases hy with h | h | h | h <;> rw [h] <;> exact Nat.mod_lt _ (by decide)
theorem bytesR_all (r : List Nat) : All 256 (bytesR r) := by
  intro y hy
  obtain ⟨x, _, h⟩ := List.mem_flatMap.1 hy
  exact bytesW_all x y h
set_option maxRecDepth 100000 in
set_option maxHeartbeats 400000 in
theorem rwords_any (r : List Nat) (w : World) (hr : r.length = 8) (hra : All 4294967296 r) :
    Calls Tryd.prog 32 #[.agg (c32 r)] w fun e w' => ∃ v, e = .returned v ∧ Own w' w.heap.size v (bytesR r) ∧ Below w.heap.size w w' := by
  have HR := Lib.hid hr
  clear hr
  go_enter Tryd.func32, Tryd.ntmps32
  go_wp2
  go_loopw [3, 4] (fun v i wr => ∃ k : Nat, k ≤ 8 ∧ i = .int .i64 (k : Int) ∧ Below w.heap.size w wr ∧ Blk wr w.heap.size 46 (c32 r) ∧ Own wr w.heap.size v (bytesR (r.take k))) (fun _ i _ => 8 - (intOf i).toNat)
  case atStart => exact ⟨0, by omega, rfl, (Below.refl _ _).alloc (Nat.le_refl _) _, Blk.new w 46 (c32 r), Own.nil _ _⟩
  case round =>
    obtain ⟨k, hk, rfl, hbel, B0, O⟩ := hrel
    by_cases hlt : k < 8
    · have dk : decide ((k : Int) < 8) = true := decide_eq_true (by omega)
      obtain ⟨x, ex, lx⟩ : ∃ x : Nat, x = r.getD k 0 ∧ x < 4294967296 := ⟨_, rfl, hra.getD (by decide) k⟩
      have EX := Lib.hid ex
      have ak : (0 : Int) ≤ (k : Int) := by omega
      have bk : (k : Int) < 8 := by omega
      clear ex
      go_wp2
      obtain ⟨wo, rfl⟩ : ∃ wo : World, wo = wr := ⟨_, rfl⟩
      go_loopw [3, 5] (fun v i wr => ∃ j : Nat, j ≤ 4 ∧ i = .int .i64 (j : Int) ∧ Below w.heap.size w wr ∧ Blk wr w.heap.size 46 (c32 r) ∧ Own wr w.heap.size v (bytesR (r.take k) ++ (bytesW x).take j)) (fun _ i _ => 4 - (intOf i).toNat)
      case atStart => exact ⟨0, by omega, rfl, hbel, B0, by rw [List.take_zero, List.append_nil]; exact O⟩
      case round =>
        clear hbel B0 O
        obtain ⟨j, hj4, rfl, hbel, B0, O⟩ := hrel
        by_cases hj : j < 4
        · have gx : wr.cell? ⟨w.heap.size, k, none⟩ = some (.int .u32 (x : Int)) := by rw [B0.w32 k (by rw [HR.out]; omega), EX.out]
          have dj : decide ((j : Int) < 4) = true := decide_eq_true (by omega)
          have bj : (j : Int) < 4 := by omega
          have hB0 := Lib.hid B0
          have hO := Lib.hid O
          have hl : (bytesR (r.take k) ++ (bytesW x).take j).length ≤ 36 := by
            rw [List.length_append, bytesR_len, List.length_take, List.length_take, HR.out, show (bytesW x).length = 4 from rfl]; omega
          have hs := hbel.size
          have hv : ((x : Int) / 2 ^ (24 - 8 * j) % 256) = ((x / 2 ^ (24 - 8 * j) % 256 : Nat) : Int) := by simp
          have HV := Lib.hid hv
          clear hv
          go_wp2_with (at_builtin; go_loud (refine wpl_append rfl _ _ _ rfl info_byte Tryd.underlying32 w.heap.size u3 _ rfl (hO.out.alloc _) _ _ _ [x / 2 ^ (24 - 8 * j) % 256] rfl rfl (C8.one_ _ _ _ HV.out _ rfl) (by rw [List.length_singleton]; omega) (by simp; omega) ?_); intro v' w1 O1 G1 _)
          go_roundw
          case rel =>
            refine ⟨j + 1, by omega, by go_num, (hbel.alloc hs _).grown G1 (by simp; omega) (fun k hk => (O.lt k hk).1), (hB0.out.alloc _).grown G1 (Own.ne hO.out hB0.out (by decide)), ?_⟩
            rw [bytesW_take x j hj, ← List.append_assoc]
            exact O1
          case measure => simp [intOf]; omega
        · have dj : decide ((j : Int) < 4) = false := decide_eq_false (by omega)
          go_wp2
          go_roundw
          case rel =>
            refine ⟨k + 1, by omega, by go_num, hbel, B0, ?_⟩
            rw [bytesR_take r k (by rw [HR.out]; omega), ← EX.out]
            rw [show j = 4 by omega] at O
            exact O
          case measure => simp [intOf]; omega
    · have dk : decide ((k : Int) < 8) = false := decide_eq_false (by omega)
      go_wp2
      go_ret
      refine ⟨_, rfl, ?_, hbel⟩
      rw [List.take_of_length_le (by rw [HR.out]; omega)] at O
      exact O
theorem eight_at (n i : Nat) (h : i < 8) : (eight n)[i]? = some (n / 2 ^ (8 * (7 - i)) % 256) := by
  simp [eight, h]
theorem eight_len (n : Nat) : (eight n).length = 8 := by simp [eight]
theorem eight_all (n : Nat) : All 256 (eight n) := by
  intro x hx
  obtain ⟨i, _, rfl⟩ := List.mem_map.1 hx
  exact Nat.mod_lt _ (by decide)
theorem c8_push (l : List Nat) (m i x : Nat) (hi : l.length = i) : (c8 (l ++ List.replicate (m + 1) 0)).setIfInBounds i (v8 x) = c8 (l ++ [x] ++ List.replicate m 0) := by
  subst hi
  unfold c8
  rw [set_list, List.replicate_succ, List.set_append_right _ _ (Nat.le_refl _), Nat.sub_self, List.set_cons_zero, List.append_assoc]
  rfl
set_option maxRecDepth 100000 in
set_option maxHeartbeats 400000 in
theorem eight_any (n : Nat) (w : World) (hn : n < 18446744073709551616) :
    Calls Tryd.prog 29 #[.int .u64 (n : Int)] w fun e w' => ∃ v, e = .returned v ∧ Own w' w.heap.size v (eight n) ∧ Below w.heap.size w w' := by
  have h0 : (0 : Int) ≤ (n : Int) := by omega
  have h1 : (n : Int) < 18446744073709551616 := by omega
  obtain ⟨E, hE⟩ : ∃ E, E = eight n := ⟨_, rfl⟩
  have hEl : E.length = 8 := by rw [hE]; exact eight_len n
  have hEa : ∀ i, i < 8 → E[i]? = some (n / 2 ^ (8 * (7 - i)) % 256) := fun i hi => by rw [hE]; exact eight_at n i hi
  rw [← hE]
  have HE := Lib.hid hE; have HEl := Lib.hid hEl; have HEa := Lib.hid hEa
  clear hE hEl hEa
  have hmk : ∀ W : World, (Instr.makeSlice 32 (.int .i64 8) (.int .i64 8)).run Tryd.prog W = .ok (.slice (some ⟨W.heap.size, 0, none⟩) 8 8) (W.alloc (.cells #[.int .u8 0, .int .u8 0, .int .u8 0, .int .u8 0, .int .u8 0, .int .u8 0, .int .u8 0, .int .u8 0] 5)) := fun _ => by kernel_rfl
  go_enter Tryd.func29, Tryd.ntmps29
  go_wp2
  go_loopw [8] (fun i wr => ∃ k : Nat, k ≤ 8 ∧ i = .int .i64 (k : Int) ∧ Below w.heap.size w wr ∧ Blk wr w.heap.size 5 (c8 (E.take k ++ List.replicate (8 - k) 0))) (fun i _ => 8 - (intOf i).toNat)
  case atStart => exact ⟨0, by omega, rfl, (Below.refl _ _).alloc (Nat.le_refl _) _, Blk.new w 5 (c8 (List.replicate 8 0))⟩
  case round =>
    obtain ⟨k, hk, rfl, hbel, B0⟩ := hrel
    by_cases hlt : k < 8
    · have gx := B0.w8 k (by rw [List.length_append, List.length_take, HEl.out, List.length_replicate]; omega)
      have fx := B0.frozen k
      have ak : (0 : Int) ≤ (k : Int) := by omega
      have bk : (k : Int) < 8 := by omega
      have dk : decide ((k : Int) < 8) = true := decide_eq_true bk
      have bz : (0 : Int) ≤ 8 * (7 - (k : Int)) := by omega
      have m1 : IntKind.i64.wrap (7 - (k : Int)) = 7 - (k : Int) := IntWalk.i64_in _ (by omega)
      have m2 : IntKind.i64.wrap (8 * (7 - (k : Int))) = 8 * (7 - (k : Int)) := IntWalk.i64_in _ (by omega)
      go_wp2
      go_roundw
      case rel =>
        have e : ((n : Int) / 2 ^ (8 * (7 - k)) % 256) = ((n / 2 ^ (8 * (7 - k)) % 256 : Nat) : Int) := by simp
        rw [e]
        refine ⟨k + 1, by omega, by go_num, hbel.setCell (Nat.le_refl _) _, ?_⟩
        have h := B0.set_ k (v8 (n / 2 ^ (8 * (7 - k)) % 256))
        obtain ⟨hk', ek⟩ := List.getElem?_eq_some_iff.1 (HEa.out k hlt)
        rw [show 8 - k = (8 - (k + 1)) + 1 by omega, c8_push _ _ _ _ (by rw [List.length_take, HEl.out]; omega)] at h
        rw [List.take_succ_eq_append_getElem hk', ek]
        exact h
      case measure => simp [intOf]; omega
    · have dk : decide ((k : Int) < 8) = false := decide_eq_false (by omega)
      go_wp2
      go_ret
      refine ⟨_, rfl, ?_, hbel⟩
      have h := B0
      rw [show 8 - k = 0 by omega, List.replicate_zero, List.append_nil, List.take_of_length_le (by rw [HEl.out]; omega)] at h
      have h2 := Own.of_Blk h (Nat.le_refl _) (by rw [HEl.out]; omega)
      rw [HEl.out] at h2
      exact h2
theorem reight_f (n : Nat) : wicketref02_eight.f 9 (n : Int) = some (toI (eight n)) := by
  kernel_rfl
theorem reight_any (n : Nat) (w : World) : Calls Tryd.prog 31 #[.int .u64 (n : Int)] w fun e w' => ∃ v, e = .returned v ∧ Own w' w.heap.size v (eight n) ∧ Below w.heap.size w w' :=
  (wicketref02_eight.calls 9 (n : Int) _ w (reight_f n)).mono fun e w' ⟨v, he, hR, hb⟩ => ⟨v, he, Own.of_R hR, hb⟩
theorem rblocks_m (r q : List Nat) (A : Option Addr) (n c : Nat) (w : World) (hr : r.length = 8) (hra : All 4294967296 r) (hn : n = q.length) (hq2 : q.length ≤ 140737488355328) (hqa : All 256 q)
    (hbs : C8 w A q.length q) (ht : Tab2 w) (h2 : 2 < w.heap.size) :
    Calls Tryd.prog 33 #[.agg (r.map v32).toArray, .slice A n c] w fun e w' => ∃ s : List Nat, s = blocks r q (q.length / 64) ∧ e = .returned (.agg (s.map v32).toArray) ∧ Below w.heap.size w w' := by
  subst hn
  exact (rblocks_any r q A c w hr hra hq2 hqa hbs ht h2).mono fun e w' ⟨he, hb⟩ => ⟨_, rfl, he, hb⟩
theorem rwords_m (r : List Nat) (w : World) (hr : r.length = 8) (hra : All 4294967296 r) :
    Calls Tryd.prog 32 #[.agg (r.map v32).toArray] w fun e w' => ∃ v, e = .returned v ∧ Own w' w.heap.size v (bytesR r) ∧ Below w.heap.size w w' := rwords_any r w hr hra
/-- A slice's length, for measures. -/
def slen : Value → Nat | .slice _ n _ => n | _ => 0
theorem slen_slice (A : Option Addr) (n c : Nat) : slen (.slice A n c) = n := rfl
/-- How many zeros are laid behind. -/
def zeros (n : Nat) : Nat := (119 - n % 64) % 64
/-- All that the last blocks are made of. -/
def padOf (p : List Nat) (n : Nat) : List Nat := p ++ [128] ++ List.replicate (zeros p.length) 0 ++ eight n
theorem padOf_all {p : List Nat} (h : All 256 p) (n : Nat) : All 256 (padOf p n) := ((h.app (All.one (by decide))).app (All.rep (by decide) _)).app (eight_all n)
/-- The sum of a Hash: register, how many bytes lie behind it, the bytes since. -/
def total (r : List Nat) (past : Nat) (p : List Nat) : List Nat := bytesR (blocks r (padOf p (8 * (past + p.length))) ((padOf p (8 * (past + p.length))).length / 64))
/-- The cells of the reference's Hash. -/
def rh (r : List Nat) (past : Nat) (v : Value) : List Value := r.map v32 ++ [.int .u64 (past : Int), v]
set_option maxRecDepth 100000 in
set_option maxHeartbeats 400000 in
theorem rtotal_any (r p : List Nat) (past : Nat) (A : Option Addr) (c : Nat) (w : World) (hr : r.length = 8) (hra : All 4294967296 r) (hp : p.length ≤ 100000000000000) (hpa : All 256 p) (hpast : past ≤ 1152921504606846976)
    (hbs : C8 w A p.length p) (ht : Tab2 w) (h2 : 2 < w.heap.size) :
    Calls Tryd.prog 21 #[.agg (rh r past (.slice A p.length c)).toArray] w fun e w' => e = .returned (.agg ((total r past p).map v8).toArray) ∧ Below w.heap.size w w' := by
  obtain ⟨L, hL⟩ : ∃ L, L = p.length := ⟨_, rfl⟩
  obtain ⟨Z, hZ⟩ : ∃ Z, Z = zeros p.length := ⟨_, rfl⟩
  have hZ1 : Z = (119 - L % 64) % 64 := by rw [hL, hZ]; rfl
  have HZ := Lib.hid hZ; have HL := Lib.hid hL; have HR := Lib.hid hr
  rw [← hL] at hp hbs
  rw [← hL]
  clear hZ hL hr
  have gp : (rh r past (.slice A L c))[8]? = some (.int .u64 (past : Int)) := by simp [rh, HR.out]
  have gv : (rh r past (.slice A L c))[9]? = some (.slice A L c) := by simp [rh, HR.out]
  have i0 : (0 : Int) ≤ (past : Int) := by omega
  have i1 : (past : Int) ≤ 1152921504606846976 := by omega
  have i2 : (L : Int) ≤ 100000000000000 := by omega
  go_enter Tryd.func21, Tryd.ntmps21
  have HC := Lib.hid hbs
  have HLL : Hid (L = p.length) := HL
  go_wp2_with (first
    | (at_builtin; refine wpl_append rfl _ _ _ rfl info_byte Tryd.underlying32 w.heap.size (.slice (some ⟨w.heap.size + 1 + 1, 0, none⟩) 0 0) [] rfl (Own.of_Blk (p := []) (Blk.new_ _ 5 _ _ (by simp)) (by omega) (by simp)) A c L p rfl HLL.out
        (by rw [← HLL.out]; exact HC.out.below ((((Below.refl _ _).alloc (Nat.le_refl _) _).alloc (by simp) _).alloc (by simp; omega) _)) (by rw [← HLL.out]; simp; omega) (by simp; omega) ?_; intro v1 w1 O1 G1 _)
    | (at_builtin; refine wpl_append rfl _ _ _ rfl info_byte Tryd.underlying32 w.heap.size v1 _ rfl (O1.alloc _) _ _ _ [128] rfl rfl (C8.one_ w1 128 128 rfl _ rfl) (by rw [List.nil_append, ← HLL.out]; simp; omega) (by have := G1.size; simp at this ⊢; omega) ?_; intro v2 w2 O2 G2 _))
  have hb1 : Below w.heap.size w w1 := ((((Below.refl _ _).alloc (Nat.le_refl _) _).alloc (by simp) _).alloc (by simp; omega) _).grown G1 (by simp; omega) (by simp [Value.ownBlock]; omega)
  have hb2 : Below w.heap.size w w2 := (hb1.alloc hb1.size _).grown G2 (by have := hb1.size; simp; omega) (fun k hk => (O1.lt k hk).1)
  have BH1 : Blk w1 w.heap.size 50 (rh r past (.slice A L c)).toArray := (((Blk.new w 50 _).alloc _).alloc _).grown G1 (by simp [Value.ownBlock]; try omega)
  have BH : Blk w2 w.heap.size 50 (rh r past (.slice A L c)).toArray := (BH1.alloc _).grown G2 (O1.ne BH1 (by decide))
  have BZ1 : Blk w1 (w.heap.size + 1) 30 (c8 (List.replicate 32 0)) := ((Blk.new_ (w.alloc _) 30 (c8 (List.replicate 32 0)) _ (by simp)).alloc _).grown G1 (by simp [Value.ownBlock]; try omega)
  have BZ : Blk w2 (w.heap.size + 1) 30 (c8 (List.replicate 32 0)) := (BZ1.alloc _).grown G2 (O1.ne BZ1 (by decide))
  clear G1 G2 O1 hb1 BH1 BZ1
  have hlen : ∀ z, (p ++ [128] ++ List.replicate z 0).length = L + 1 + z := fun z => by rw [HL.out]; simp; try omega
  have HLEN := Lib.hid hlen
  clear hlen
  go_loopw [4] (fun v wr => ∃ z : Nat, z ≤ Z ∧ Own wr w.heap.size v (p ++ [128] ++ List.replicate z 0) ∧ Below w.heap.size w wr ∧ Blk wr w.heap.size 50 (rh r past (.slice A L c)).toArray ∧ Blk wr (w.heap.size + 1) 30 (c8 (List.replicate 32 0))) (fun v _ => L + 70 - slen v)
  case atStart => exact ⟨0, by omega, by rw [List.replicate_zero, List.append_nil]; exact O2, hb2, BH, BZ⟩
  case round =>
    clear O2 hb2 BH BZ
    obtain ⟨z, hz, O, hbel, BH, BZ⟩ := hrel
    obtain ⟨A4, n4, c4, hn4, rfl, hC4⟩ := O.arg_
    rw [HLEN.out] at hn4 hC4
    have hn4' : n4 = L + 1 + z := hn4
    have j0 : (0 : Int) ≤ (n4 : Int) := by omega
    have j1 : (n4 : Int) ≤ 200000000000000 := by omega
    by_cases hlt : z < Z
    · have t0 : ¬ ((n4 : Int) % 64 = 56) := by omega
      have t1 : ((n4 : Int) % 64 != 56) = true := by simpa using t0
      have HN := Lib.hid hn4'
      have hO := Lib.hid O
      clear hn4 hn4' 
      have hs := hbel.size
      go_wp2_with (at_builtin; refine wpl_append rfl _ _ _ rfl info_byte Tryd.underlying32 w.heap.size _ _ rfl (hO.out.alloc _) _ _ _ [0] rfl rfl (C8.one_ _ 0 0 rfl _ rfl) (by rw [HLEN.out]; simp; omega) (by simp; omega) ?_; intro v3 w3 O3 G3 _)
      go_roundw
      case rel =>
        refine ⟨z + 1, by omega, ?_, (hbel.alloc hs _).grown G3 (by simp; omega) (fun k hk => (hO.out.lt k hk).1), (BH.alloc _).grown G3 (hO.out.ne BH (by decide)), (BZ.alloc _).grown G3 (hO.out.ne BZ (by decide))⟩
        rw [List.replicate_succ', ← List.append_assoc]
        exact O3
      case measure =>
        obtain ⟨A5, n5, c5, hn5, rfl, _⟩ := O3.arg_
        have h1 := HN.out
        have h2 := HLEN.out z
        simp only [slen_slice]
        rw [List.length_append, h2] at hn5
        simp at hn5
        omega
    · have t0 : ((n4 : Int) % 64 = 56) := by omega
      have T0 := Lib.hid t0
      have t1 : ((n4 : Int) % 64 != 56) = false := by simpa using t0
      clear t0
      have hzZ : z = Z := by omega
      obtain ⟨q4, hq4⟩ : ∃ q4, q4 = p ++ [128] ++ List.replicate z 0 := ⟨_, rfl⟩
      rw [← hq4] at O
      have HN : Hid (n4 = q4.length) := by rw [hq4, HLEN.out]; exact hn4
      have HQ : Hid (padOf p (8 * (past + L)) = q4 ++ eight (8 * (past + L))) := by
        show padOf p _ = _
        rw [hq4, hzZ, HZ.out]
        rfl
      have hO := Lib.hid O
      have n4b : n4 ≤ 100000000001000 := by omega
      clear hn4 hn4' hC4 hzZ hq4
      obtain ⟨N, hN⟩ : ∃ N, N = 8 * (past + L) := ⟨_, rfl⟩
      have h8 : ∀ W : World, Calls Tryd.prog 31 #[.int .u64 (8 * ((past : Int) + (L : Int)))] W fun e w' => ∃ v, e = .returned v ∧ Own w' W.heap.size v (eight N) ∧ Below W.heap.size W w' := fun W => by
        have h := reight_any N W
        rw [hN] at h ⊢
        rw [show ((8 * (past + L) : Nat) : Int) = 8 * ((past : Int) + (L : Int)) by omega] at h
        exact h
      have H8 := Lib.hid h8
      have HNN := Lib.hid hN
      obtain ⟨E, hE⟩ : ∃ E, E = eight N := ⟨_, rfl⟩
      have hEl : E.length = 8 := by rw [hE]; exact eight_len N
      have hEa : All 256 E := by rw [hE]; exact eight_all N
      rw [← hE] at h8
      rw [← hN, ← hE] at HQ
      have HE := Lib.hid hE; have HEl := Lib.hid hEl
      have hqa : All 256 (padOf p N) := padOf_all hpa N
      have hql : (padOf p N).length = n4 + 8 := by rw [HQ.out, List.length_append, HEl.out, HN.out]
      obtain ⟨q, hq⟩ : ∃ q, q = padOf p N := ⟨_, rfl⟩
      rw [← hq] at hqa hql HQ
      have HQL := Lib.hid hql; have HQE := Lib.hid hq
      have H8 := Lib.hid h8
      clear hN h8 hE hEl hql hq
      have hws := hbel.size
      go_wp2_with (first
        | (go_at_call 31; (with_reducible refine (H8.out _).mono ?_); rintro e w5 ⟨v5, rfl, O5, hb5⟩; obtain ⟨A5, n5, c5, hn5, rfl, hC5⟩ := O5.arg_; have HN5 := Lib.hid hn5; clear hn5)
        | (at_builtin; refine wpl_append rfl _ _ _ rfl info_byte Tryd.underlying32 w.heap.size _ _ rfl (hO.out.below hb5) _ _ _ E rfl HN5.out hC5 (by rw [← HN.out, HEl.out]; omega) (by have := hb5.size; omega) ?_; intro v6 w6 O6 G6 _
           have BH6 := (BH.below hb5 BH.lt).grown G6 (hO.out.ne BH (by decide)); have BZ6 := (BZ.below hb5 BZ.lt).grown G6 (hO.out.ne BZ (by decide))
           have hb6 := (hbel.trans (hb5.mono hws)).grown G6 (by have := hb5.size; omega) (fun k hk => (hO.out.lt k hk).1)
           rw [← HQ.out] at O6; obtain ⟨A6, n6, c6, hn6, rfl, hC6⟩ := O6.arg_; have HN6 := Lib.hid hn6; clear hn6)
        | (refine wpl_load rfl 46 _ rfl w.heap.size 0 rfl 50 [] (r.map v32) [.int .u64 (past : Int), .slice A L c] BH6 rfl _ Tryd.underlying46 rfl (by rw [List.length_map, HR.out]; kernel_rfl) ?_)
        | (go_at_call 33; (with_reducible refine (rblocks_m r q A6 n6 c6 _ HR.out hra HN6.out (by rw [HQL.out]; omega) hqa hC6 (ht.below hb6 h2) (by have := hb6.size; omega)).mono ?_); rintro e w7 ⟨s, hs, rfl, hb7⟩; have HSs := Lib.hid hs; clear hs)
        | (go_at_call 32; (with_reducible refine (rwords_m s _ (by rw [HSs.out]; exact blocks_len HR.out _ _) (by rw [HSs.out]; exact blocks_all hra _ _)).mono ?_); rintro e w8 ⟨v8_, rfl, O8, hb8⟩; obtain ⟨A8, n8, c8_, hn8, rfl, hC8⟩ := O8.arg_
           have hDl : (bytesR s).length = 32 := by rw [bytesR_len, HSs.out, blocks_len HR.out]
           obtain ⟨b8, o8, rfl, hlt8, hbs8⟩ := hC8.at_ (by omega)
           obtain rfl : n8 = 32 := hn8.trans hDl
           clear hn8))
      obtain ⟨D, hD⟩ : ∃ D, D = bytesR s := ⟨_, rfl⟩
      have hDl : D.length = 32 := by rw [hD, bytesR_len, HSs.out, blocks_len HR.out]
      have hDa : All 256 D := by rw [hD]; exact bytesR_all s
      rw [← hD] at hbs8
      have HT : Hid (total r past p = D) := by
        show total r past p = D
        rw [hD, HSs.out, HQE.out, HNN.out, HL.out]
        rfl
      have HDl := Lib.hid hDl
      have hb8' := (hb6.trans (hb7.mono hb6.size)).trans (hb8.mono (hb6.trans (hb7.mono hb6.size)).size)
      have BZ8 := (BZ6.below hb7 BZ6.lt).below hb8 (BZ6.below hb7 BZ6.lt).lt
      clear hD hDl hC8 O8 hb8 hb7 hb6 BZ6 BH6 hC6 O6 G6 hC5 O5 hb5 hbel BH BZ hO O
      have hws8 := hb8'.size
      have hlt9 := BZ8.lt
      go_loopw [7] (fun i wr => ∃ k : Nat, k ≤ 32 ∧ i = .int .i64 (k : Int) ∧ Below w.heap.size w wr ∧ Below w8.heap.size w8 wr ∧ Blk wr (w.heap.size + 1) 30 (c8 (List.replicate 32 0)) ∧ Blk wr w8.heap.size 30 (c8 (D.take k ++ List.replicate (32 - k) 0))) (fun i _ => 32 - (intOf i).toNat)
      case atStart => exact ⟨0, by omega, rfl, hb8'.alloc hws8 _, (Below.refl _ _).alloc (Nat.le_refl _) _, BZ8.alloc _, Blk.new w8 30 (c8 (List.replicate 32 0))⟩
      case round =>
        clear hb8' BZ8
        obtain ⟨k, hk, rfl, hbel, hbel8, BZ, BD⟩ := hrel
        by_cases hk32 : k < 32
        · have dk : decide ((k : Int) < 32) = true := decide_eq_true (by omega)
          have ak : (0 : Int) ≤ (k : Int) := by omega
          have bk : (k : Int) < 32 := by omega
          obtain ⟨x, ex, gx⟩ : ∃ x : Nat, x = D.getD k 0 ∧ wr.cell? ⟨b8, o8 + k, none⟩ = some (.int .u8 (x : Int)) := ⟨_, rfl, (hbs8.below hbel8 hlt8) k (by rw [HDl.out]; omega)⟩
          have EX := Lib.hid ex
          clear ex
          have gd := BD.w8 k (by rw [List.length_append, List.length_take, HDl.out, List.length_replicate]; omega)
          have fd := BD.frozen k
          go_wp2
          go_roundw
          case rel =>
            refine ⟨k + 1, by omega, by go_num, hbel.setCell (by show w.heap.size ≤ w8.heap.size; omega) _, hbel8.setCell (Nat.le_refl _) _, BZ.far (by show w.heap.size + 1 ≠ w8.heap.size; omega) _, ?_⟩
            have h := BD.set_ k (v8 x)
            rw [show 32 - k = (32 - (k + 1)) + 1 by omega, c8_push _ _ _ _ (by rw [List.length_take, HDl.out]; omega)] at h
            rw [List.take_succ_eq_append_getElem (by rw [HDl.out]; omega), show D[k]'(by rw [HDl.out]; omega) = x by rw [EX.out, List.getD_eq_getElem?_getD, List.getElem?_eq_getElem (by rw [HDl.out]; omega)]; rfl]
            exact h
          case measure => simp [intOf]; omega
        · have dk : decide ((k : Int) < 32) = false := decide_eq_false (by omega)
          have BD' : Blk wr w8.heap.size 30 ([] ++ D.map v8 ++ []).toArray := by
            have h := BD
            rw [show 32 - k = 0 by omega, List.replicate_zero, List.append_nil, List.take_of_length_le (by rw [HDl.out]; omega)] at h
            rw [List.nil_append, List.append_nil]
            exact h
          have BZ' : Blk wr (w.heap.size + 1) 30 ([] ++ (List.replicate 32 0).map v8 ++ []).toArray := BZ
          have HB := Lib.hid BD'; have HBZ := Lib.hid BZ'
          clear BD BD' BZ BZ'
          go_wp2_with (first
            | (refine wpl_load rfl 30 _ rfl w8.heap.size 0 rfl 30 [] (D.map v8) [] HB.out rfl _ Tryd.underlying30 rfl (by rw [List.length_map, HDl.out]; kernel_rfl) ?_)
            | (refine wpl_store rfl 30 _ _ rfl (w.heap.size + 1) 0 rfl 30 [] ((List.replicate 32 0).map v8) [] (D.map v8) rfl HBZ.out rfl (by rw [List.length_map, HDl.out]; rfl) (by rw [List.length_map, HDl.out]; kernel_rfl) (v8_one D) ?_; intro w9 B9 O9))
          rw [HT.out]
          exact bodyPost_ret (results_cell_row rfl _ _ (w.heap.size + 1) 30 (D.map v8).toArray (0, 0) _ rfl (by have h9 := B9; rw [List.nil_append, List.append_nil] at h9; exact h9) Tryd.underlying30 rfl (by rw [show (D.map v8).toArray.size = 32 by simp [HDl.out]]; kernel_rfl)) rfl ⟨rfl, O9.below hbel (by omega)⟩
theorem blocks_pre (r a b : List Nat) : ∀ n, 64 * n ≤ a.length → blocks r (a ++ b) n = blocks r a n
  | 0, _ => rfl
  | n + 1, h => by
    rw [blocks, blocks, blocks_pre r a b n (by omega), List.drop_append_of_le_length (by omega), List.take_append_of_le_length (by rw [List.length_drop]; omega)]
/-- What lies behind the whole blocks. -/
def tailOf (a : List Nat) : List Nat := a.drop (64 * (a.length / 64))
theorem tailOf_len (a : List Nat) : (tailOf a).length = a.length % 64 := by unfold tailOf; rw [List.length_drop]; omega
/-- The register behind the whole blocks. -/
def regOf (r a : List Nat) : List Nat := blocks r a (a.length / 64)
theorem regOf_len {r : List Nat} (h : r.length = 8) (a : List Nat) : (regOf r a).length = 8 := blocks_len h _ _
theorem regOf_all {r : List Nat} (h : All 4294967296 r) (a : List Nat) : All 4294967296 (regOf r a) := blocks_all h _ _
theorem regOf_less (r a q : List Nat) (h : a.length % 64 + q.length < 64) : regOf r (a ++ q) = regOf r a := by
  unfold regOf
  rw [List.length_append, show (a.length + q.length) / 64 = a.length / 64 by omega, blocks_pre _ _ _ _ (by omega)]
theorem regOf_full (r a q : List Nat) (h : a.length % 64 + q.length = 64) : regOf r (a ++ q) = turn (regOf r a) (tailOf a ++ q) := by
  unfold regOf tailOf
  rw [List.length_append, show (a.length + q.length) / 64 = a.length / 64 + 1 by omega, blocks, blocks_pre _ _ _ _ (by omega), List.drop_append_of_le_length (by omega), List.take_of_length_le (by rw [List.length_append, List.length_drop]; omega)]
theorem tailOf_less (a q : List Nat) (h : a.length % 64 + q.length < 64) : tailOf (a ++ q) = tailOf a ++ q := by
  unfold tailOf
  rw [List.length_append, show (a.length + q.length) / 64 = a.length / 64 by omega, List.drop_append_of_le_length (by omega)]
theorem tailOf_full (a q : List Nat) (h : a.length % 64 + q.length = 64) : tailOf (a ++ q) = [] := by
  unfold tailOf
  rw [List.length_append, show (a.length + q.length) / 64 = a.length / 64 + 1 by omega]
  exact List.drop_eq_nil_of_le (by rw [List.length_append]; omega)
theorem tailOf_zero (a : List Nat) (h : a.length % 64 = 0) : tailOf a = [] := List.eq_nil_of_length_eq_zero (by rw [tailOf_len, h])
theorem eight_of (l : List Nat) (h : l.length = 8) : ∃ a b c d e f g k : Nat, l = [a, b, c, d, e, f, g, k] := by
  match l, h with
  | [a, b, c, d, e, f, g, k], _ => exact ⟨a, b, c, d, e, f, g, k, rfl⟩
/-- The cells of the program's Hash. -/
def hcells (R rest : List Nat) (tk : Nat) : List Value := R.map v32 ++ rest.map v8 ++ [.int .u64 (tk : Int)]
/-- Block g is a Hash: what came in since a register that stands for a multiple of 64 bytes. -/
def HashAt (w : World) (g : Nat) (r : List Nat) (past : Nat) (all : List Nat) : Prop :=
  ∃ rest : List Nat, Blk w g 62 (hcells (regOf r all) rest (past + all.length)).toArray ∧ rest.length = 64 ∧ All 256 rest ∧ rest.take (all.length % 64) = tailOf all
theorem turn8 (r0 r1 r2 r3 r4 r5 r6 r7 : Nat) (p : List Nat) (b o c : Nat) (w : World) (hra : All 4294967296 [r0, r1, r2, r3, r4, r5, r6, r7]) (hp : p.length = 64) (hpa : All 256 p)
    (hbs : Bs w b o p) (hb : b < w.heap.size) (ht : Tab1 w) (h1 : 1 < w.heap.size) :
    Calls Tryd.prog 28 #[.agg #[.int .u32 r0, .int .u32 r1, .int .u32 r2, .int .u32 r3, .int .u32 r4, .int .u32 r5, .int .u32 r6, .int .u32 r7], .slice (some ⟨b, o, none⟩) 64 c] w
      fun e w' => ∃ t0 t1 t2 t3 t4 t5 t6 t7 : Nat, e = .returned (.agg #[.int .u32 t0, .int .u32 t1, .int .u32 t2, .int .u32 t3, .int .u32 t4, .int .u32 t5, .int .u32 t6, .int .u32 t7]) ∧ Hid (turn [r0, r1, r2, r3, r4, r5, r6, r7] p = [t0, t1, t2, t3, t4, t5, t6, t7]) ∧ Below w.heap.size w w' := by
  refine (turn_any [r0, r1, r2, r3, r4, r5, r6, r7] p b o c w rfl hra hp hpa hbs hb ht h1).mono fun e w' ⟨he, hb⟩ => ?_
  obtain ⟨t0, t1, t2, t3, t4, t5, t6, t7, ht⟩ := eight_of _ (turn_len [r0, r1, r2, r3, r4, r5, r6, r7] p)
  rw [ht] at he
  exact ⟨t0, t1, t2, t3, t4, t5, t6, t7, he, ht, hb⟩
theorem bcell {w w1 : World} (hb : Below w.heap.size w w1) : (∀ b o, b < w.heap.size → w1.cell? ⟨b, o, none⟩ = w.cell? ⟨b, o, none⟩) ∧ (∀ b o, b < w.heap.size → w1.frozen? ⟨b, o, none⟩ = w.frozen? ⟨b, o, none⟩) :=
  ⟨fun b o h => hb.cell (p := ⟨b, o, none⟩) h, fun b o h => hb.frozen (p := ⟨b, o, none⟩) h⟩
theorem set_eight_pre (a0 a1 a2 a3 a4 a5 a6 a7 : Value) (l : List Value) (v0 v1 v2 v3 v4 v5 v6 v7 : Value) :
    ((((((((([a0, a1, a2, a3, a4, a5, a6, a7] ++ l).toArray.setIfInBounds 0 v0).setIfInBounds 1 v1).setIfInBounds 2 v2).setIfInBounds 3 v3).setIfInBounds 4 v4).setIfInBounds 5 v5).setIfInBounds 6 v6).setIfInBounds 7 v7) = ([v0, v1, v2, v3, v4, v5, v6, v7] ++ l).toArray := by
  simp only [List.cons_append, List.nil_append, List.setIfInBounds_toArray, List.set_cons_zero, List.set_cons_succ]
theorem Blk.sets8 {w : World} {g t : Nat} {cs : Array Value} (h : Blk w g t cs) (v0 v1 v2 v3 v4 v5 v6 v7 : Value) :
    Blk ((((((((w.setCell ⟨g, 0, none⟩ v0).setCell ⟨g, 1, none⟩ v1).setCell ⟨g, 2, none⟩ v2).setCell ⟨g, 3, none⟩ v3).setCell ⟨g, 4, none⟩ v4).setCell ⟨g, 5, none⟩ v5).setCell ⟨g, 6, none⟩ v6).setCell ⟨g, 7, none⟩ v7) g t ((((((((cs.setIfInBounds 0 v0).setIfInBounds 1 v1).setIfInBounds 2 v2).setIfInBounds 3 v3).setIfInBounds 4 v4).setIfInBounds 5 v5).setIfInBounds 6 v6).setIfInBounds 7 v7) :=
  ((((((((h.set_ 0 v0).set_ 1 v1).set_ 2 v2).set_ 3 v3).set_ 4 v4).set_ 5 v5).set_ 6 v6).set_ 7 v7)
theorem Blk.eight_of {w : World} {g t : Nat} {a0 a1 a2 a3 a4 a5 a6 a7 : Value} {l : List Value} (h : Blk w g t ([a0, a1, a2, a3, a4, a5, a6, a7] ++ l).toArray) (v0 v1 v2 v3 v4 v5 v6 v7 : Value) :
    Blk ((((((((w.setCell ⟨g, 0, none⟩ v0).setCell ⟨g, 1, none⟩ v1).setCell ⟨g, 2, none⟩ v2).setCell ⟨g, 3, none⟩ v3).setCell ⟨g, 4, none⟩ v4).setCell ⟨g, 5, none⟩ v5).setCell ⟨g, 6, none⟩ v6).setCell ⟨g, 7, none⟩ v7) g t ([v0, v1, v2, v3, v4, v5, v6, v7] ++ l).toArray := by
  have h8 := Blk.sets8 h v0 v1 v2 v3 v4 v5 v6 v7
  rw [set_eight_pre] at h8
  exact h8
theorem only_set {a w : World} {g : Nat} (h : a.grownBy w (some g)) (i : Nat) (u : Value) : a.grownBy (w.setCell ⟨g, i, none⟩ u) (some g) :=
  ⟨h.os, h.tape, h.output, by simpa [World.setCell] using h.size, fun k hk hne => (Below.heap_setCell w _ u k (fun e => hne (by rw [e]))).trans (h.block k hk hne)⟩
theorem grown_eight {a w : World} {g : Nat} (h : a.grownBy w (some g)) (v0 v1 v2 v3 v4 v5 v6 v7 : Value) :
    a.grownBy ((((((((w.setCell ⟨g, 0, none⟩ v0).setCell ⟨g, 1, none⟩ v1).setCell ⟨g, 2, none⟩ v2).setCell ⟨g, 3, none⟩ v3).setCell ⟨g, 4, none⟩ v4).setCell ⟨g, 5, none⟩ v5).setCell ⟨g, 6, none⟩ v6).setCell ⟨g, 7, none⟩ v7) (some g) :=
  only_set (only_set (only_set (only_set (only_set (only_set (only_set (only_set h 0 v0) 1 v1) 2 v2) 3 v3) 4 v4) 5 v5) 6 v6) 7 v7
theorem only_below {a w w' : World} {g : Nat} (h : a.grownBy w (some g)) (hb : Below w.heap.size w w') : a.grownBy w' (some g) :=
  ⟨hb.os.trans h.os, hb.tape.trans h.tape, hb.output.trans h.output, Nat.le_trans h.size hb.size, fun k hk hne => (hb.block k (Nat.lt_of_lt_of_le hk h.size)).trans (h.block k hk hne)⟩
theorem only_only {a w w' : World} {g : Nat} (h : a.grownBy w (some g)) (O : Only g w w') : a.grownBy w' (some g) :=
  ⟨O.os.trans h.os, O.tape.trans h.tape, O.output.trans h.output, by rw [O.size]; exact h.size, fun k hk hne => (O.block k (fun e => hne (by rw [e]))).trans (h.block k hk hne)⟩
theorem Tab1.grown {w w' : World} {g : Nat} (h : Tab1 w) (hb : w.grownBy w' (some g)) (h1 : 1 < w.heap.size) (hne : 1 ≠ g) : Tab1 w' :=
  fun j hj => (World.cell?_of_block (a := ⟨1, j, none⟩) (hb.block 1 h1 (fun e => hne (by injection e)))).trans (h j hj)
/-- What is left of a slice: k bytes are gone. -/
def Rest (v : Value) (b o k n : Nat) : Prop := ∃ A c, v = .slice A (n - k) c ∧ (k < n → A = some ⟨b, o + k, none⟩) ∧ n - k ≤ c
theorem hcells_set72 (T rest : List Nat) (tk tk' : Nat) (hT : T.length = 8) (hr : rest.length = 64) (x : Int) (hx : x = (tk' : Int)) : (hcells T rest tk).toArray.setIfInBounds 72 (.int .u64 x) = (hcells T rest tk').toArray := by
  subst hx
  unfold hcells
  rw [List.setIfInBounds_toArray, List.set_append_right _ _ (by simp [hT, hr])]
  simp [hT, hr]
theorem blk_turned {w1 : World} {g : Nat} {r0 r1 r2 r3 r4 r5 r6 r7 t0 t1 t2 t3 t4 t5 t6 t7 tk : Nat} {rest : List Nat} (h : Blk w1 g 62 (hcells [r0, r1, r2, r3, r4, r5, r6, r7] rest tk).toArray) :
    Blk ((((((((w1.setCell ⟨g, 0, none⟩ (.int .u32 (t0 : Int))).setCell ⟨g, 1, none⟩ (.int .u32 (t1 : Int))).setCell ⟨g, 2, none⟩ (.int .u32 (t2 : Int))).setCell ⟨g, 3, none⟩ (.int .u32 (t3 : Int))).setCell ⟨g, 4, none⟩ (.int .u32 (t4 : Int))).setCell ⟨g, 5, none⟩ (.int .u32 (t5 : Int))).setCell ⟨g, 6, none⟩ (.int .u32 (t6 : Int))).setCell ⟨g, 7, none⟩ (.int .u32 (t7 : Int))) g 62 (hcells [t0, t1, t2, t3, t4, t5, t6, t7] rest tk).toArray := by
  have e : ∀ a b c d e f g k : Nat, hcells [a, b, c, d, e, f, g, k] rest tk = [.int .u32 (a : Int), .int .u32 (b : Int), .int .u32 (c : Int), .int .u32 (d : Int), .int .u32 (e : Int), .int .u32 (f : Int), .int .u32 (g : Int), .int .u32 (k : Int)] ++ (rest.map v8 ++ [.int .u64 (tk : Int)]) := fun a b c d e f g k => by
    unfold hcells
    rw [List.append_assoc]
    rfl
  rw [e] at h ⊢
  exact Blk.eight_of h _ _ _ _ _ _ _ _
theorem below_of_drew {w w' : World} (h : Below w.drew.heap.size w.drew w') : Below w.heap.size w w' := ⟨h.os, h.tape, h.output, h.size, h.block⟩
theorem take_more (p : List Nat) (k m : Nat) : p.take (k + m) = p.take k ++ (p.drop k).take m := List.take_add
theorem hcells_cut (R rest : List Nat) (tk a m : Nat) : hcells R rest tk = (R.map v32 ++ (rest.take a).map v8) ++ ((rest.drop a).take m).map v8 ++ ((rest.drop (a + m)).map v8 ++ [.int .u64 (tk : Int)]) := by
  unfold hcells
  rw [List.append_assoc, List.append_assoc, List.append_assoc]
  congr 1
  rw [← List.append_assoc ((List.take m (List.drop a rest)).map v8), ← List.append_assoc ((List.take a rest).map v8), ← List.map_append, ← List.map_append, ← List.drop_drop, List.take_append_drop, List.take_append_drop]
theorem hcells_72 (R rest : List Nat) (tk : Nat) (hR : R.length = 8) (hr : rest.length = 64) : (hcells R rest tk).toArray[72]? = some (.int .u64 (tk : Int)) := by
  rw [hcells, List.getElem?_toArray, List.getElem?_append_right (by simp [hR, hr])]
  simp [hR, hr]
theorem hcells_low (r0 r1 r2 r3 r4 r5 r6 r7 : Nat) (rest : List Nat) (tk i : Nat) (v : Value) (h : ([r0, r1, r2, r3, r4, r5, r6, r7].map v32)[i]? = some v) : (hcells [r0, r1, r2, r3, r4, r5, r6, r7] rest tk).toArray[i]? = some v := by
  have hi := (List.getElem?_eq_some_iff.1 h).1
  rw [hcells, List.getElem?_toArray, List.append_assoc, List.getElem?_append_left hi]
  exact h
theorem bs_hcells {w : World} {g : Nat} {R rest : List Nat} {tk : Nat} (hR : R.length = 8) (hB : Blk w g 62 (hcells R rest tk).toArray) : Bs w g 8 rest := by
  intro j hj
  rw [hB.cell, hcells, List.getElem?_toArray, List.append_assoc, List.getElem?_append_right (by rw [List.length_map, hR]; omega), List.length_map, hR, Nat.add_sub_cancel_left, List.getElem?_append_left (by rw [List.length_map]; exact hj), List.getElem?_map, List.getElem?_eq_getElem hj,
    List.getD_eq_getElem?_getD, List.getElem?_eq_getElem hj]
  rfl
theorem hcells_put (R rest q : List Nat) (tk a m : Nat) : (R.map v32 ++ (rest.take a).map v8) ++ q.map v8 ++ ((rest.drop (a + m)).map v8 ++ [.int .u64 (tk : Int)]) = hcells R (rest.take a ++ q ++ rest.drop (a + m)) tk := by
  unfold hcells
  simp only [List.map_append, List.append_assoc]
section
variable {P : Program} {w : World} {ops : Array Oper} {rest : List Oper} {o : Oper} {a : Act} {Q : Exit → Act → World → Prop}
theorem wpl_copy_n (hgd : o.guard = none) (d s : Operand) (dT sT : TypeId) (ho : o.op = .call { callee := .builtin .copy, args := #[d, s], argTypes := #[dT, sT] }) (elem : TypeId)
    (hu : P.underlying dT = some (.slice elem)) (hsz : (P.info? elem).map (·.size) = some 1) (dp sp : Option Addr) (dLen dCap sLen sCap : Nat) (hd : a.eval d = .slice dp dLen dCap) (hs : a.eval s = .slice sp sLen sCap)
    (g off : Nat) (t : TypeId) (pre mid post new : List Value) (hB : Blk w g t (pre ++ mid ++ post).toArray) (hoff : pre.length = off) (hn : new.length = mid.length) (hmin : new.length = Nat.min sLen dLen)
    (hpos : 0 < new.length → dp = some ⟨g, off, none⟩ ∧ ∃ ad, sp = some ad ∧ ∀ j v, new[j]? = some v → w.cell? (ad.add j) = some v) (h1 : ∀ v ∈ new, v.oneCell' = true) (n : Nat) (hln : new.length = n)
    (h : ∀ w', Blk w' g t (pre ++ new ++ post).toArray → Only g w w' → wpList P ops Q rest (a.put o.dst (.int .i64 (n : Int))) w') : wpList P ops Q (o :: rest) a w := by
  subst hln
  exact wpl_copy hgd d s dT sT ho elem hu hsz dp sp dLen dCap sLen sCap hd hs g off t pre mid post new hB hoff hn hmin hpos h1 h
end
theorem bs_cells {w : World} {b o : Nat} {p : List Nat} (h : Bs w b o p) : ∀ j v, (p.map v8)[j]? = some v → w.cell? ((Addr.mk b o none).add j) = some v := by
  intro j v hv
  rw [List.getElem?_map] at hv
  cases e : p[j]? with
  | none => rw [e] at hv; cases hv
  | some x =>
    rw [e] at hv
    injection hv with hv
    subst hv
    have hj := (List.getElem?_eq_some_iff.1 e).1
    rw [Addr.add_mid, h j hj, List.getD_eq_getElem?_getD, e]
    rfl
theorem rest_put_len (rest q : List Nat) (a m : Nat) (hr : rest.length = 64) (hq : q.length = m) (h : a + m ≤ 64) : (rest.take a ++ q ++ rest.drop (a + m)).length = 64 := by
  rw [List.length_append, List.length_append, List.length_take, List.length_drop]; omega
theorem rest_put_all {rest q : List Nat} (hr : All 256 rest) (hq : All 256 q) (a m : Nat) : All 256 (rest.take a ++ q ++ rest.drop (a + m)) := ((hr.take a).app hq).app (hr.drop _)
theorem rest_put_take (rest q tl : List Nat) (a m : Nat) (hr : rest.length = 64) (hq : q.length = m) (h : a + m ≤ 64) (ht : rest.take a = tl) : (rest.take a ++ q ++ rest.drop (a + m)).take (a + m) = tl ++ q := by
  rw [List.take_left' (by rw [List.length_append, List.length_take]; omega), ht]
theorem hash_less {w2 : World} {g past at_ mn tk : Nat} {r cur q rest : List Nat} (hat : at_ = cur.length % 64) (htk : tk = past + cur.length) (hq : q.length = mn) (hn : at_ + mn < 64) (hr : r.length = 8)
    (hrl : rest.length = 64) (hra : All 256 rest) (hqa : All 256 q) (htl : rest.take at_ = tailOf cur) (hB : Blk w2 g 62 (hcells (regOf r cur) (rest.take at_ ++ q ++ rest.drop (at_ + mn)) tk).toArray) :
    HashAt (w2.setCell ⟨g, 72, none⟩ (.int .u64 ((tk : Int) + (mn : Int)))) g r past (cur ++ q) := by
  have hl : (cur ++ q).length = cur.length + mn := by rw [List.length_append, hq]
  have h1 := rest_put_len rest q at_ mn hrl hq (by omega)
  have h := hB.set_ 72 (.int .u64 ((tk : Int) + (mn : Int)))
  rw [hcells_set72 _ _ _ (past + (cur ++ q).length) (regOf_len hr cur) h1 _ (by rw [hl, htk]; omega)] at h
  refine ⟨_, ?_, h1, rest_put_all hra hqa at_ mn, ?_⟩
  · rw [regOf_less r cur q (by omega)]
    exact h
  · rw [hl, show (cur.length + mn) % 64 = at_ + mn by omega, rest_put_take rest q _ at_ mn hrl hq (by omega) htl, tailOf_less cur q (by omega)]
theorem Rest.mk_ {A : Option Addr} {b o k n c x : Nat} (hx : x = n - k) (h : k < n → A = some ⟨b, o + k, none⟩) (hc : n - k ≤ c) : Rest (.slice A x c) b o k n := ⟨A, c, by rw [hx], h, hc⟩
set_option maxRecDepth 100000 in
set_option maxHeartbeats 800000 in
theorem write_any (g past : Nat) (r all p : List Nat) (b o c : Nat) (w : World) (hr : r.length = 8) (hra : All 4294967296 r) (hpast : past % 64 = 0) (hmax : past + all.length + p.length ≤ 2305843009213693952)
    (hH : HashAt w g r past all) (hall : All 256 all) (hp0 : 0 < p.length) (hpc : p.length ≤ c) (hpa : All 256 p) (hbs : Bs w b o p) (hb : b < w.heap.size) (hbg : b ≠ g) (ht : Tab1 w) (h1 : 1 < w.heap.size) (h1g : 1 ≠ g) :
    Calls Tryd.prog 19 #[.pointer (some ⟨g, 0, none⟩), .slice (some ⟨b, o, none⟩) p.length c] w fun e w' => e = .returned (.tuple #[]) ∧ HashAt w' g r past (all ++ p) ∧ w.grownBy w' (some g) := by
  obtain ⟨n, hn⟩ : ∃ n, n = p.length := ⟨_, rfl⟩
  rw [← hn] at hmax hp0 hpc
  rw [← hn]
  have HN := Lib.hid hn; have HR := Lib.hid hr; have HP := Lib.hid hpast; have HBS := Lib.hid hbs; have HT := Lib.hid ht; have HH := Lib.hid hH
  clear hn hr hpast hbs ht hH
  go_enter Tryd.func19, Tryd.ntmps19
  go_wp2
  go_loopw [1] (fun v wr => ∃ k : Nat, k ≤ n ∧ Rest v b o k n ∧ HashAt wr g r past (all ++ p.take k) ∧ w.grownBy wr (some g)) (fun v _ => slen v)
  case atStart => exact ⟨0, by omega, ⟨_, _, rfl, fun _ => rfl, hpc⟩, by rw [List.take_zero, List.append_nil]; exact HH.out, World.grownBy.refl w _⟩
  case round =>
    obtain ⟨k, hk, ⟨A, cc, rfl, hA, hcc⟩, ⟨rest, hB, hrl, hrest, htl⟩, hG⟩ := hrel
    obtain ⟨cur, hcur⟩ : ∃ cur, cur = all ++ p.take k := ⟨_, rfl⟩
    have hcl : cur.length = all.length + k := by rw [hcur, List.length_append, List.length_take, ← HN.out]; omega
    have hca : All 256 cur := by rw [hcur]; exact hall.app (hpa.take k)
    rw [← hcur] at hB htl
    obtain ⟨m, hm⟩ : ∃ m, m = n - k := ⟨_, rfl⟩
    obtain ⟨at_, hat⟩ : ∃ at_, at_ = cur.length % 64 := ⟨_, rfl⟩
    obtain ⟨tk, htk⟩ : ∃ tk, tk = past + cur.length := ⟨_, rfl⟩
    rw [← hm] at hcc
    rw [← hm]
    rw [← hat] at htl
    rw [← htk] at hB
    have hat2 : tk % 64 = at_ := by rw [htk, hat]; have := HP.out; omega
    have hat64 : at_ < 64 := by omega
    have htk62 : tk ≤ 2305843009213693952 := by omega
    have HC := Lib.hid hcur; have HCL := Lib.hid hcl; have HM := Lib.hid hm; have HAT := Lib.hid hat; have HTK := Lib.hid htk
    obtain ⟨R, hR⟩ : ∃ R, R = regOf r cur := ⟨_, rfl⟩
    have hRl : R.length = 8 := by rw [hR]; exact regOf_len HR.out cur
    have hRa : All 4294967296 R := by rw [hR]; exact regOf_all hra cur
    rw [← hR] at hB
    have HRR := Lib.hid hR
    clear hR
    obtain ⟨r0, r1, r2, r3, r4, r5, r6, r7, hR8⟩ := eight_of R hRl
    subst hR8
    clear hRl
    have gc : ∀ i, i < 8 → ∃ x : Nat, x = [r0, r1, r2, r3, r4, r5, r6, r7].getD i 0 ∧ wr.cell? ⟨g, i, none⟩ = some (.int .u32 (x : Int)) := fun i hi => ⟨_, rfl, by
      rw [hB.cell, hcells, List.getElem?_toArray, List.append_assoc, List.getElem?_append_left (by simpa using hi), List.getElem?_map, List.getElem?_eq_getElem (by simpa using hi), List.getD_eq_getElem?_getD, List.getElem?_eq_getElem (by simpa using hi)]
      rfl⟩
    have c0 : wr.cell? ⟨g, 0, none⟩ = some (.int .u32 (r0 : Int)) := by obtain ⟨x, rfl, h⟩ := gc 0 (by omega); exact h
    have c1 : wr.cell? ⟨g, 1, none⟩ = some (.int .u32 (r1 : Int)) := by obtain ⟨x, rfl, h⟩ := gc 1 (by omega); exact h
    have c2 : wr.cell? ⟨g, 2, none⟩ = some (.int .u32 (r2 : Int)) := by obtain ⟨x, rfl, h⟩ := gc 2 (by omega); exact h
    have c3 : wr.cell? ⟨g, 3, none⟩ = some (.int .u32 (r3 : Int)) := by obtain ⟨x, rfl, h⟩ := gc 3 (by omega); exact h
    have c4 : wr.cell? ⟨g, 4, none⟩ = some (.int .u32 (r4 : Int)) := by obtain ⟨x, rfl, h⟩ := gc 4 (by omega); exact h
    have c5 : wr.cell? ⟨g, 5, none⟩ = some (.int .u32 (r5 : Int)) := by obtain ⟨x, rfl, h⟩ := gc 5 (by omega); exact h
    have c6 : wr.cell? ⟨g, 6, none⟩ = some (.int .u32 (r6 : Int)) := by obtain ⟨x, rfl, h⟩ := gc 6 (by omega); exact h
    have c7 : wr.cell? ⟨g, 7, none⟩ = some (.int .u32 (r7 : Int)) := by obtain ⟨x, rfl, h⟩ := gc 7 (by omega); exact h
    have c72 : wr.cell? ⟨g, 72, none⟩ = some (.int .u64 (tk : Int)) := by
      rw [hB.cell, hcells, List.getElem?_toArray, List.getElem?_append_right (by simp [hrl])]
      simp [hrl]
    have f0 := hB.frozen 0; have f1 := hB.frozen 1; have f2 := hB.frozen 2; have f3 := hB.frozen 3
    have f4 := hB.frozen 4; have f5 := hB.frozen 5; have f6 := hB.frozen 6; have f7 := hB.frozen 7; have f72 := hB.frozen 72
    have hglt := hB.lt
    have HB := Lib.hid hB; have HRL := Lib.hid hrl; have HTL := Lib.hid htl; have HAT2 := Lib.hid hat2
    clear gc hB hrl htl hcur hcl hm hat htk hat2
    have e1 : ((tk : Int) % 64) = (at_ : Int) := by have := HAT2.out; omega
    have i0 : (0 : Int) ≤ (tk : Int) := by omega
    have i1 : (tk : Int) ≤ 2305843009213693952 := by omega
    have i2 : (0 : Int) ≤ (at_ : Int) := by omega
    have i3 : (at_ : Int) < 64 := by omega
    by_cases hm0 : 0 < m
    · have hAe : A = some ⟨b, o + k, none⟩ := hA (by have := HM.out; omega)
      subst hAe
      clear hA
      have im : (0 : Int) < (m : Int) := by omega
      by_cases ha : at_ = 0 ∧ 64 ≤ m
      · (
          obtain ⟨ha0, hm64⟩ := ha
          have t1 : ((at_ : Int) == 0) = true := by simp [ha0]
          have t2 : (m : Int) ≥ 64 := by omega
          have t3 : decide ((64 : Int) ≤ (m : Int)) = true := decide_eq_true t2
          have hcc2 : cc = 64 ∨ 64 < cc := by omega
          rcases hcc2 with rfl | hcc2
          · obtain rfl : m = 64 := by omega
            clear im t2 t3 hm0
            go_wp2
            have hq64 : ((p.drop k).take 64).length = 64 := by rw [List.length_take, List.length_drop, ← HN.out]; have := HM.out; omega
            have hqb : Bs wr b (o + k) ((p.drop k).take 64) := (HBS.out.grown hG hb hbg).sub k 64 (by rw [← HN.out]; have := HM.out; omega)
            have hqa : All 256 ((p.drop k).take 64) := (hpa.drop k).take 64
            obtain ⟨q, hq⟩ : ∃ q, q = (p.drop k).take 64 := ⟨_, rfl⟩
            rw [← hq] at hq64 hqb hqa
            have HQ := Lib.hid hq; have HQ64 := Lib.hid hq64; have HQB := Lib.hid hqb
            clear hq hq64 hqb
            have hcall : Calls Tryd.prog 28 #[.agg #[.int .u32 r0, .int .u32 r1, .int .u32 r2, .int .u32 r3, .int .u32 r4, .int .u32 r5, .int .u32 r6, .int .u32 r7], .slice (some ⟨b, o + k, none⟩) 64 64] wr.drew _ := turn8 r0 r1 r2 r3 r4 r5 r6 r7 q b (o + k) 64 wr.drew hRa HQ64.out hqa HQB.out (Nat.lt_of_lt_of_le hb hG.size) (show Tab1 wr from HT.out.grown hG h1 h1g) (Nat.lt_of_lt_of_le h1 hG.size)
            go_region_with (go_at_call 28; (with_reducible refine hcall.mono ?_); rintro e w1 ⟨t0, t1, t2, t3, t4, t5, t6, t7, rfl, hT, hb1⟩; replace hb1 := below_of_drew hb1; obtain ⟨hc1, hf1⟩ := bcell hb1; have k0 := (hc1 g 0 hglt).trans c0; have l0 := (hf1 g 0 hglt).trans f0; have k1 := (hc1 g 1 hglt).trans c1; have l1 := (hf1 g 1 hglt).trans f1; have k2 := (hc1 g 2 hglt).trans c2; have l2 := (hf1 g 2 hglt).trans f2; have k3 := (hc1 g 3 hglt).trans c3; have l3 := (hf1 g 3 hglt).trans f3; have k4 := (hc1 g 4 hglt).trans c4; have l4 := (hf1 g 4 hglt).trans f4; have k5 := (hc1 g 5 hglt).trans c5; have l5 := (hf1 g 5 hglt).trans f5; have k6 := (hc1 g 6 hglt).trans c6; have l6 := (hf1 g 6 hglt).trans f6; have k7 := (hc1 g 7 hglt).trans c7; have l7 := (hf1 g 7 hglt).trans f7; have k72 := (hc1 g 72 hglt).trans c72; have l72 := (hf1 g 72 hglt).trans f72; clear hc1 hf1)
            all_goals go_wp2
            all_goals
              refine ⟨⟨k + 64, ?_, Rest.mk_ (by have := HM.out; omega) (fun hlt => by first | (exfalso; have := HM.out; omega) | rw [Nat.add_assoc]) (by have := HM.out; omega), ?_, ?_⟩, ?_⟩
            all_goals first
              | (have := HM.out; omega)
              | exact only_set (grown_eight (only_below hG hb1) _ _ _ _ _ _ _ _) _ _
              | (simp only [slen]; omega)
              | (rw [take_more, ← List.append_assoc, ← HC.out, ← HQ.out]
                 have hl : (cur ++ q).length = cur.length + 64 := by rw [List.length_append, HQ64.out]
                 have ha1 : cur.length % 64 = 0 := by rw [← HAT.out]; exact ha0
                 have hB1 := (blk_turned (t0 := t0) (t1 := t1) (t2 := t2) (t3 := t3) (t4 := t4) (t5 := t5) (t6 := t6) (t7 := t7) (Blk.below HB.out hb1 hglt)).set_ 72 (.int .u64 ((tk : Int) + 64))
                 rw [hcells_set72 _ _ _ (past + (cur ++ q).length) rfl HRL.out _ (by rw [hl, HTK.out]; omega)] at hB1
                 refine ⟨rest, ?_, HRL.out, hrest, ?_⟩
                 · rw [regOf_full r cur q (by rw [ha1, HQ64.out]), tailOf_zero cur ha1, List.nil_append, ← HRR.out, hT.out]
                   exact hB1
                 · rw [tailOf_full cur q (by rw [ha1, HQ64.out]), hl, show (cur.length + 64) % 64 = 0 by omega, List.take_zero])
          · have hcc3 : (64 : Int) < (cc : Int) := by omega
            have hcc4 : ¬ (cc = 64) := by omega
            go_wp2
            have hq64 : ((p.drop k).take 64).length = 64 := by rw [List.length_take, List.length_drop, ← HN.out]; have := HM.out; omega
            have hqb : Bs wr b (o + k) ((p.drop k).take 64) := (HBS.out.grown hG hb hbg).sub k 64 (by rw [← HN.out]; have := HM.out; omega)
            have hqa : All 256 ((p.drop k).take 64) := (hpa.drop k).take 64
            obtain ⟨q, hq⟩ : ∃ q, q = (p.drop k).take 64 := ⟨_, rfl⟩
            rw [← hq] at hq64 hqb hqa
            have HQ := Lib.hid hq; have HQ64 := Lib.hid hq64; have HQB := Lib.hid hqb
            clear hq hq64 hqb
            have hcall : Calls Tryd.prog 28 #[.agg #[.int .u32 r0, .int .u32 r1, .int .u32 r2, .int .u32 r3, .int .u32 r4, .int .u32 r5, .int .u32 r6, .int .u32 r7], .slice (some ⟨b, o + k, none⟩) 64 64] wr.drew _ := turn8 r0 r1 r2 r3 r4 r5 r6 r7 q b (o + k) 64 wr.drew hRa HQ64.out hqa HQB.out (Nat.lt_of_lt_of_le hb hG.size) (show Tab1 wr from HT.out.grown hG h1 h1g) (Nat.lt_of_lt_of_le h1 hG.size)
            go_region_with (go_at_call 28; (with_reducible refine hcall.mono ?_); rintro e w1 ⟨t0, t1, t2, t3, t4, t5, t6, t7, rfl, hT, hb1⟩; replace hb1 := below_of_drew hb1; obtain ⟨hc1, hf1⟩ := bcell hb1; have k0 := (hc1 g 0 hglt).trans c0; have l0 := (hf1 g 0 hglt).trans f0; have k1 := (hc1 g 1 hglt).trans c1; have l1 := (hf1 g 1 hglt).trans f1; have k2 := (hc1 g 2 hglt).trans c2; have l2 := (hf1 g 2 hglt).trans f2; have k3 := (hc1 g 3 hglt).trans c3; have l3 := (hf1 g 3 hglt).trans f3; have k4 := (hc1 g 4 hglt).trans c4; have l4 := (hf1 g 4 hglt).trans f4; have k5 := (hc1 g 5 hglt).trans c5; have l5 := (hf1 g 5 hglt).trans f5; have k6 := (hc1 g 6 hglt).trans c6; have l6 := (hf1 g 6 hglt).trans f6; have k7 := (hc1 g 7 hglt).trans c7; have l7 := (hf1 g 7 hglt).trans f7; have k72 := (hc1 g 72 hglt).trans c72; have l72 := (hf1 g 72 hglt).trans f72; clear hc1 hf1)
            all_goals go_wp2
            all_goals
              refine ⟨⟨k + 64, ?_, Rest.mk_ (by have := HM.out; omega) (fun hlt => by first | (exfalso; have := HM.out; omega) | rw [Nat.add_assoc]) (by have := HM.out; omega), ?_, ?_⟩, ?_⟩
            all_goals first
              | (have := HM.out; omega)
              | exact only_set (grown_eight (only_below hG hb1) _ _ _ _ _ _ _ _) _ _
              | (simp only [slen]; omega)
              | (rw [take_more, ← List.append_assoc, ← HC.out, ← HQ.out]
                 have hl : (cur ++ q).length = cur.length + 64 := by rw [List.length_append, HQ64.out]
                 have ha1 : cur.length % 64 = 0 := by rw [← HAT.out]; exact ha0
                 have hB1 := (blk_turned (t0 := t0) (t1 := t1) (t2 := t2) (t3 := t3) (t4 := t4) (t5 := t5) (t6 := t6) (t7 := t7) (Blk.below HB.out hb1 hglt)).set_ 72 (.int .u64 ((tk : Int) + 64))
                 rw [hcells_set72 _ _ _ (past + (cur ++ q).length) rfl HRL.out _ (by rw [hl, HTK.out]; omega)] at hB1
                 refine ⟨rest, ?_, HRL.out, hrest, ?_⟩
                 · rw [regOf_full r cur q (by rw [ha1, HQ64.out]), tailOf_zero cur ha1, List.nil_append, ← HRR.out, hT.out]
                   exact hB1
                 · rw [tailOf_full cur q (by rw [ha1, HQ64.out]), hl, show (cur.length + 64) % 64 = 0 by omega, List.take_zero]))
      · obtain ⟨mn, hmn⟩ : ∃ mn, mn = min m (64 - at_) := ⟨_, rfl⟩
        have hmn1 : mn ≤ m := by omega
        have hmn2 : at_ + mn ≤ 64 := by omega
        have hmn3 : 0 < mn := by omega
        have hcut := hcells_cut [r0, r1, r2, r3, r4, r5, r6, r7] rest tk at_ mn
        have hB2 : Hid (Blk wr g 62 (([r0, r1, r2, r3, r4, r5, r6, r7].map v32 ++ (rest.take at_).map v8) ++ ((rest.drop at_).take mn).map v8 ++ ((rest.drop (at_ + mn)).map v8 ++ [Value.int .u64 (tk : Int)])).toArray) := by
          have h := HB.out
          rw [hcut] at h
          exact h
        obtain ⟨q, hq⟩ : ∃ q, q = (p.drop k).take mn := ⟨_, rfl⟩
        have hql : q.length = mn := by rw [hq, List.length_take, List.length_drop, ← HN.out]; have := HM.out; omega
        have hqb : Bs wr b (o + k) q := by rw [hq]; exact (HBS.out.grown hG hb hbg).sub k mn (by rw [← HN.out]; have := HM.out; omega)
        have hqa : All 256 q := by rw [hq]; exact (hpa.drop k).take mn
        have HQ := Lib.hid hq; have HQL := Lib.hid hql; have HQB := Lib.hid hqb; have HMN := Lib.hid hmn
        have i4 : (0 : Int) ≤ (mn : Int) := by omega
        have i5 : (mn : Int) ≤ (m : Int) := by omega
        have i6 : (mn : Int) ≤ (cc : Int) := by omega
        have i7 : (at_ : Int) + (mn : Int) ≤ 64 := by omega
        have i8 : (at_ : Int) ≤ 64 := by omega
        have n64 : ¬ (64 = at_) := by omega
        have n65 : ¬ (at_ = 64) := by omega
        have hz : (at_ = 0 ∧ m < 64) ∨ at_ ≠ 0 := by omega
        clear hcut hq hql hqb hmn ha
        by_cases hfull : at_ + mn = 64
        · (
          have tf : ((at_ : Int) + (mn : Int) == 64) = true := by simp; omega
          have hz0 : at_ ≠ 0 := by omega
          have t1 : ((at_ : Int) == 0) = false := by simp; omega
          rcases (show mn = cc ∨ cc ≠ mn by omega) with rfl | hcm
          all_goals (
            go_wp2_with (
              refine wpl_copy_n rfl _ _ _ _ rfl 5 Tryd.underlying32 (by kernel_rfl) _ _ _ _ _ _ rfl rfl g (8 + at_) 62 _ _ _ (q.map v8) hB2.out
                (by simp [HRL.out]; omega) (by simp [HQL.out, HRL.out]; omega) (by rw [List.length_map, HQL.out]; exact HMN.out)
                (fun _ => ⟨rfl, _, rfl, bs_cells HQB.out⟩) (v8_one q) mn (by rw [List.length_map, HQL.out]) ?_
              intro w2 B2 O2
              rw [hcells_put] at B2
              have k72 : w2.cell? ⟨g, 72, none⟩ = some (.int .u64 (tk : Int)) := by
                rw [B2.cell]
                exact hcells_72 _ _ _ rfl (by simp [HRL.out, HQL.out]; omega)
              have l72 := B2.frozen 72
              have k0 : w2.cell? ⟨g, 0, none⟩ = some (.int .u32 (r0 : Int)) := by rw [B2.cell]; exact hcells_low _ _ _ _ _ _ _ _ _ _ 0 _ rfl
              have l0 := B2.frozen 0
              have k1 : w2.cell? ⟨g, 1, none⟩ = some (.int .u32 (r1 : Int)) := by rw [B2.cell]; exact hcells_low _ _ _ _ _ _ _ _ _ _ 1 _ rfl
              have l1 := B2.frozen 1
              have k2 : w2.cell? ⟨g, 2, none⟩ = some (.int .u32 (r2 : Int)) := by rw [B2.cell]; exact hcells_low _ _ _ _ _ _ _ _ _ _ 2 _ rfl
              have l2 := B2.frozen 2
              have k3 : w2.cell? ⟨g, 3, none⟩ = some (.int .u32 (r3 : Int)) := by rw [B2.cell]; exact hcells_low _ _ _ _ _ _ _ _ _ _ 3 _ rfl
              have l3 := B2.frozen 3
              have k4 : w2.cell? ⟨g, 4, none⟩ = some (.int .u32 (r4 : Int)) := by rw [B2.cell]; exact hcells_low _ _ _ _ _ _ _ _ _ _ 4 _ rfl
              have l4 := B2.frozen 4
              have k5 : w2.cell? ⟨g, 5, none⟩ = some (.int .u32 (r5 : Int)) := by rw [B2.cell]; exact hcells_low _ _ _ _ _ _ _ _ _ _ 5 _ rfl
              have l5 := B2.frozen 5
              have k6 : w2.cell? ⟨g, 6, none⟩ = some (.int .u32 (r6 : Int)) := by rw [B2.cell]; exact hcells_low _ _ _ _ _ _ _ _ _ _ 6 _ rfl
              have l6 := B2.frozen 6
              have k7 : w2.cell? ⟨g, 7, none⟩ = some (.int .u32 (r7 : Int)) := by rw [B2.cell]; exact hcells_low _ _ _ _ _ _ _ _ _ _ 7 _ rfl
              have l7 := B2.frozen 7)

            obtain ⟨RR, hRR⟩ : ∃ RR, RR = rest.take at_ ++ q ++ rest.drop (at_ + mn) := ⟨_, rfl⟩
            have hRRl : RR.length = 64 := by rw [hRR]; exact rest_put_len rest q at_ mn HRL.out HQL.out hmn2
            have hRRa : All 256 RR := by rw [hRR]; exact rest_put_all hrest hqa at_ mn
            have hRRt : RR = tailOf cur ++ q := by
              have h := rest_put_take rest q (tailOf cur) at_ mn HRL.out HQL.out hmn2 HTL.out
              rw [← hRR, hfull, List.take_of_length_le (by omega)] at h
              exact h
            rw [← hRR] at B2
            have B3 := B2.set_ 72 (.int .u64 ((tk : Int) + (mn : Int)))
            rw [hcells_set72 _ _ _ (tk + mn) rfl hRRl _ (by omega)] at B3
            have hbsR : Bs (w2.setCell ⟨g, 72, none⟩ (.int .u64 ((tk : Int) + (mn : Int)))) g 8 RR := bs_hcells rfl B3
            have HRRl := Lib.hid hRRl; have HRRt := Lib.hid hRRt; have HB3 := Lib.hid B3; have HBR := Lib.hid hbsR
            have hG3 := only_set (only_only hG O2) 72 (.int .u64 ((tk : Int) + (mn : Int)))
            have hcall : Calls Tryd.prog 28 #[.agg #[.int .u32 r0, .int .u32 r1, .int .u32 r2, .int .u32 r3, .int .u32 r4, .int .u32 r5, .int .u32 r6, .int .u32 r7], .slice (some ⟨g, 8, none⟩) 64 64] (w2.setCell ⟨g, 72, none⟩ (.int .u64 ((tk : Int) + (mn : Int)))).drew _ :=
              turn8 r0 r1 r2 r3 r4 r5 r6 r7 RR g 8 64 (w2.setCell ⟨g, 72, none⟩ (.int .u64 ((tk : Int) + (mn : Int)))).drew hRa HRRl.out hRRa HBR.out B3.lt (show Tab1 (w2.setCell ⟨g, 72, none⟩ (.int .u64 ((tk : Int) + (mn : Int)))) from HT.out.grown hG3 h1 h1g) (Nat.lt_of_lt_of_le h1 hG3.size)
            clear hRR hRRl hRRt B3 hbsR
            have hg3 := HB3.out.lt
            obtain ⟨w3, hw3⟩ : ∃ w3, w3 = w2.setCell ⟨g, 72, none⟩ (.int .u64 ((tk : Int) + (mn : Int))) := ⟨_, rfl⟩
            have HW3 := Lib.hid hw3
            have x0 : w3.cell? ⟨g, 0, none⟩ = some (.int .u32 (r0 : Int)) := by rw [hw3, HB3.out.cell]; exact hcells_low _ _ _ _ _ _ _ _ _ _ 0 _ rfl
            have y0 : w3.frozen? ⟨g, 0, none⟩ = false := by rw [hw3]; exact HB3.out.frozen 0
            have x1 : w3.cell? ⟨g, 1, none⟩ = some (.int .u32 (r1 : Int)) := by rw [hw3, HB3.out.cell]; exact hcells_low _ _ _ _ _ _ _ _ _ _ 1 _ rfl
            have y1 : w3.frozen? ⟨g, 1, none⟩ = false := by rw [hw3]; exact HB3.out.frozen 1
            have x2 : w3.cell? ⟨g, 2, none⟩ = some (.int .u32 (r2 : Int)) := by rw [hw3, HB3.out.cell]; exact hcells_low _ _ _ _ _ _ _ _ _ _ 2 _ rfl
            have y2 : w3.frozen? ⟨g, 2, none⟩ = false := by rw [hw3]; exact HB3.out.frozen 2
            have x3 : w3.cell? ⟨g, 3, none⟩ = some (.int .u32 (r3 : Int)) := by rw [hw3, HB3.out.cell]; exact hcells_low _ _ _ _ _ _ _ _ _ _ 3 _ rfl
            have y3 : w3.frozen? ⟨g, 3, none⟩ = false := by rw [hw3]; exact HB3.out.frozen 3
            have x4 : w3.cell? ⟨g, 4, none⟩ = some (.int .u32 (r4 : Int)) := by rw [hw3, HB3.out.cell]; exact hcells_low _ _ _ _ _ _ _ _ _ _ 4 _ rfl
            have y4 : w3.frozen? ⟨g, 4, none⟩ = false := by rw [hw3]; exact HB3.out.frozen 4
            have x5 : w3.cell? ⟨g, 5, none⟩ = some (.int .u32 (r5 : Int)) := by rw [hw3, HB3.out.cell]; exact hcells_low _ _ _ _ _ _ _ _ _ _ 5 _ rfl
            have y5 : w3.frozen? ⟨g, 5, none⟩ = false := by rw [hw3]; exact HB3.out.frozen 5
            have x6 : w3.cell? ⟨g, 6, none⟩ = some (.int .u32 (r6 : Int)) := by rw [hw3, HB3.out.cell]; exact hcells_low _ _ _ _ _ _ _ _ _ _ 6 _ rfl
            have y6 : w3.frozen? ⟨g, 6, none⟩ = false := by rw [hw3]; exact HB3.out.frozen 6
            have x7 : w3.cell? ⟨g, 7, none⟩ = some (.int .u32 (r7 : Int)) := by rw [hw3, HB3.out.cell]; exact hcells_low _ _ _ _ _ _ _ _ _ _ 7 _ rfl
            have y7 : w3.frozen? ⟨g, 7, none⟩ = false := by rw [hw3]; exact HB3.out.frozen 7
            have HB3' : Hid (Blk w3 g 62 (hcells [r0, r1, r2, r3, r4, r5, r6, r7] RR (tk + mn)).toArray) := by rw [hw3]; exact HB3.out
            rw [← hw3] at hcall hg3 hG3 ⊢
            clear hw3 HB3 k0 k1 k2 k3 k4 k5 k6 k7 k72 l0 l1 l2 l3 l4 l5 l6 l7 l72 c0 c1 c2 c3 c4 c5 c6 c7 c72 f0 f1 f2 f3 f4 f5 f6 f7 f72 HBR HW3
            go_region_with (go_at_call 28; (with_reducible refine hcall.mono ?_); rintro e w1 ⟨t0, t1, t2, t3, t4, t5, t6, t7, rfl, hT, hb1⟩; replace hb1 := below_of_drew hb1; obtain ⟨hc1, hf1⟩ := bcell hb1; have k0 := (hc1 g 0 hg3).trans x0; have l0 := (hf1 g 0 hg3).trans y0; have k1 := (hc1 g 1 hg3).trans x1; have l1 := (hf1 g 1 hg3).trans y1; have k2 := (hc1 g 2 hg3).trans x2; have l2 := (hf1 g 2 hg3).trans y2; have k3 := (hc1 g 3 hg3).trans x3; have l3 := (hf1 g 3 hg3).trans y3; have k4 := (hc1 g 4 hg3).trans x4; have l4 := (hf1 g 4 hg3).trans y4; have k5 := (hc1 g 5 hg3).trans x5; have l5 := (hf1 g 5 hg3).trans y5; have k6 := (hc1 g 6 hg3).trans x6; have l6 := (hf1 g 6 hg3).trans y6; have k7 := (hc1 g 7 hg3).trans x7; have l7 := (hf1 g 7 hg3).trans y7; clear hc1 hf1)
            all_goals go_wp2
            all_goals
              refine ⟨⟨k + mn, ?_, Rest.mk_ (by have := HM.out; omega) (fun hlt => by first | (exfalso; have := HM.out; omega) | rw [Nat.add_assoc]) (by have := HM.out; omega), ?_, ?_⟩, ?_⟩
            all_goals first
              | (have := HM.out; omega)
              | exact grown_eight (only_below hG3 hb1) _ _ _ _ _ _ _ _
              | (simp only [slen]; omega)
              | (rw [take_more, ← List.append_assoc, ← HC.out, ← HQ.out]
                 have hl : (cur ++ q).length = cur.length + mn := by rw [List.length_append, HQL.out]
                 have hB1 := (blk_turned (t0 := t0) (t1 := t1) (t2 := t2) (t3 := t3) (t4 := t4) (t5 := t5) (t6 := t6) (t7 := t7) (Blk.below HB3'.out hb1 hg3))
                 refine ⟨RR, ?_, HRRl.out, hRRa, ?_⟩
                 · rw [regOf_full r cur q (by rw [HQL.out, ← HAT.out]; exact hfull), ← HRRt.out, ← HRR.out, hT.out, hl, ← Nat.add_assoc, ← HTK.out]
                   exact hB1
                 · rw [tailOf_full cur q (by rw [HQL.out, ← HAT.out]; exact hfull), hl, show (cur.length + mn) % 64 = 0 by have := HAT.out; omega, List.take_zero])))
        · have tf : ((at_ : Int) + (mn : Int) == 64) = false := by simp; omega
          rcases hz with ⟨hz0, hz1⟩ | hz0
          · have t1 : ((at_ : Int) == 0) = true := by simp [hz0]
            have t2 : decide ((64 : Int) ≤ (m : Int)) = false := decide_eq_false (by omega)
            have HZ0 := Lib.hid hz0
            clear hz0
            go_wp2_with (
              refine wpl_copy_n rfl _ _ _ _ rfl 5 Tryd.underlying32 (by kernel_rfl) _ _ _ _ _ _ rfl rfl g (8 + at_) 62 _ _ _ (q.map v8) hB2.out
                (by simp [HRL.out]; omega) (by simp [HQL.out, HRL.out]; omega) (by rw [List.length_map, HQL.out]; exact HMN.out)
                (fun _ => ⟨rfl, _, rfl, bs_cells HQB.out⟩) (v8_one q) mn (by rw [List.length_map, HQL.out]) ?_
              intro w2 B2 O2
              rw [hcells_put] at B2
              have k72 : w2.cell? ⟨g, 72, none⟩ = some (.int .u64 (tk : Int)) := by
                rw [B2.cell]
                exact hcells_72 _ _ _ rfl (by simp [HRL.out, HQL.out]; omega)
              have l72 := B2.frozen 72)
            go_roundw
            case rel =>
              refine ⟨k + mn, by have := HM.out; omega, Rest.mk_ (by have := HM.out; omega) (fun hlt => by rw [if_neg (by have := HM.out; omega), Nat.add_assoc]) (by have := HM.out; omega), ?_, only_set (only_only hG O2) _ _⟩
              rw [take_more, ← List.append_assoc, ← HC.out, ← HQ.out]
              rw [HRR.out] at B2
              exact hash_less HAT.out HTK.out HQL.out (by omega) HR.out HRL.out hrest hqa HTL.out B2
            case measure => simp only [slen]; omega
          · have t1 : ((at_ : Int) == 0) = false := by simp; omega
            go_wp2_with (
              refine wpl_copy_n rfl _ _ _ _ rfl 5 Tryd.underlying32 (by kernel_rfl) _ _ _ _ _ _ rfl rfl g (8 + at_) 62 _ _ _ (q.map v8) hB2.out
                (by simp [HRL.out]; omega) (by simp [HQL.out, HRL.out]; omega) (by rw [List.length_map, HQL.out]; exact HMN.out)
                (fun _ => ⟨rfl, _, rfl, bs_cells HQB.out⟩) (v8_one q) mn (by rw [List.length_map, HQL.out]) ?_
              intro w2 B2 O2
              rw [hcells_put] at B2
              have k72 : w2.cell? ⟨g, 72, none⟩ = some (.int .u64 (tk : Int)) := by
                rw [B2.cell]
                exact hcells_72 _ _ _ rfl (by simp [HRL.out, HQL.out]; omega)
              have l72 := B2.frozen 72)
            go_roundw
            case rel =>
              refine ⟨k + mn, by have := HM.out; omega, Rest.mk_ (by have := HM.out; omega) (fun hlt => by rw [if_neg (by have := HM.out; omega), Nat.add_assoc]) (by have := HM.out; omega), ?_, only_set (only_only hG O2) _ _⟩
              rw [take_more, ← List.append_assoc, ← HC.out, ← HQ.out]
              rw [HRR.out] at B2
              exact hash_less HAT.out HTK.out HQL.out (by omega) HR.out HRL.out hrest hqa HTL.out B2
            case measure => simp only [slen]; omega
    · have im : ¬ ((0 : Int) < (m : Int)) := by omega
      have id : decide ((0 : Int) < (m : Int)) = false := decide_eq_false im
      go_wp2
      go_end0
      refine ⟨rfl, ?_, hG⟩
      have e : all ++ p = cur := by
        rw [HC.out, List.take_of_length_le (by rw [← HN.out]; have := HM.out; omega)]
      rw [e]
      refine ⟨rest, ?_, HRL.out, hrest, by rw [← HAT.out]; exact HTL.out⟩
      rw [← HRR.out, ← HTK.out]
      exact HB.out
theorem run_index_row {P : Program} (T E n : Nat) {d : TypeDesc} (hu : P.underlying T = some (.array n E)) (hE : P.underlying E = some d) (hd : d.isRow = false) (hs : (P.info? E).map (·.size) = some 1) (cs : Array Value) (k : Nat) (v : Value) (hk : k < n)
    (hc : cs[k]? = some v) (W : World) : (Instr.index T (.agg cs) (.int .i64 (k : Int))).run P W = .ok v W := by
  have hagg : (isAgg E).run P W = .ok false W := by
    unfold isAgg
    rw [Sem.run_bind, run_underlying hE W]
    cases d <;> simp_all [TypeDesc.isRow]
  cases hq : P.info? E with
  | none => simp [hq] at hs
  | some i =>
    have h1 : i.size = 1 := by simpa [hq] using hs
    simp [Instr.index, asIntOf, run_underlying hu, sizeOf, typeInfo, hq, h1, part, hagg, hc, hk]
theorem bytesR_app (a b : List Nat) : bytesR (a ++ b) = bytesR a ++ bytesR b := by unfold bytesR; rw [List.flatMap_append]
theorem bytesR_pre (r : List Nat) (k : Nat) (h : k ≤ r.length) : (bytesR r).take (4 * k) = bytesR (r.take k) := by
  have e : bytesR r = bytesR (r.take k) ++ bytesR (r.drop k) := by rw [← bytesR_app, List.take_append_drop]
  rw [e, List.take_left' (by rw [bytesR_len, List.length_take]; omega)]
set_option maxRecDepth 100000 in
set_option maxHeartbeats 1000000 in
theorem bytes_any (r : List Nat) (w : World) (hr : r.length = 8) (hra : All 4294967296 r) :
    Calls Tryd.prog 30 #[.agg (r.map v32).toArray] w fun e w' => e = .returned (.agg ((bytesR r).map v8).toArray) ∧ Below w.heap.size w w' := by
  obtain ⟨D, hD⟩ : ∃ D, D = bytesR r := ⟨_, rfl⟩
  have hDl : D.length = 32 := by rw [hD, bytesR_len, hr]
  rw [← hD]
  have HR := Lib.hid hr; have HD := Lib.hid hD; have HDl := Lib.hid hDl
  clear hr hD hDl
  have hix : ∀ (W : World) (k : Nat), k < 8 → (Instr.index 59 (.agg (r.map v32).toArray) (.int .i64 (k : Int))).run Tryd.prog W = .ok (.int .u32 (r.getD k 0 : Nat)) W := by
    intro W k hk
    exact run_index_row 59 45 8 Tryd.underlying59 Tryd.underlying45 rfl (by kernel_rfl) _ k _ hk (by rw [List.getElem?_toArray, List.getElem?_map, List.getElem?_eq_getElem (by rw [HR.out]; exact hk), List.getD_eq_getElem?_getD, List.getElem?_eq_getElem (by rw [HR.out]; exact hk)]; rfl) W
  have HIX := Lib.hid hix
  clear hix
  go_enter Tryd.func30, Tryd.ntmps30
  go_wp2_with (refine wpl_load rfl 59 _ rfl w.heap.size 0 rfl 59 [] (r.map v32) [] (by rw [List.nil_append, List.append_nil]; exact ((Blk.new w 59 _).alloc _).alloc _) rfl _ Tryd.underlying59 rfl (by rw [List.length_map, HR.out]; kernel_rfl) ?_)
  go_loopw [7] (fun i wr => ∃ k : Nat, k ≤ 8 ∧ i = .int .i64 (k : Int) ∧ Below w.heap.size w wr ∧ Blk wr (w.heap.size + 1) 30 (c8 (List.replicate 32 0)) ∧ Blk wr (w.heap.size + 1 + 1) 30 (c8 (D.take (4 * k) ++ List.replicate (32 - 4 * k) 0))) (fun i _ => 8 - (intOf i).toNat)
  case atStart => exact ⟨0, by omega, rfl, (((Below.refl _ _).alloc (Nat.le_refl _) _).alloc (by simp) _).alloc (by simp; omega) _, (Blk.new_ (w.alloc _) 30 (c8 (List.replicate 32 0)) _ (by simp)).alloc _, Blk.new_ ((w.alloc _).alloc _) 30 _ _ (by simp)⟩
  case round =>
    obtain ⟨k, hk, rfl, hbel, BZ, B2⟩ := hrel
    by_cases hlt : k < 8
    · have dk : decide ((k : Int) < 8) = true := decide_eq_true (by omega)
      obtain ⟨x, ex, lx⟩ : ∃ x : Nat, x = r.getD k 0 ∧ x < 4294967296 := ⟨_, rfl, hra.getD (by decide) k⟩
      have hi : ∀ W : World, (Instr.index 59 (.agg (r.map v32).toArray) (.int .i64 (k : Int))).run Tryd.prog W = .ok (.int .u32 (x : Int)) W := fun W => by rw [ex]; exact HIX.out W k hlt
      have EX := Lib.hid ex
      clear ex
      have hsz : (c8 (D.take (4 * k) ++ List.replicate (32 - 4 * k) 0)).size = 32 := by simp [c8, HDl.out]; omega
      have HSZ := Lib.hid hsz; have HB2 := Lib.hid B2
      clear hsz B2
      have ak : (0 : Int) ≤ (k : Int) := by omega
      have bk : (k : Int) < 8 := by omega
      have n1 : (4 * (k : Int) + 1).toNat = 4 * k + 1 := by omega
      have n2 : (4 * (k : Int) + 2).toNat = 4 * k + 2 := by omega
      have n3 : (4 * (k : Int) + 3).toNat = 4 * k + 3 := by omega
      have n0 : (4 * (k : Int)).toNat = 4 * k := by omega
      go_wp2_with (first
        | (refine wpl_set rfl 5 _ _ rfl (w.heap.size + 1 + 1) (4 * k) rfl 30 _ _ rfl rfl rfl HB2.out (by rw [HSZ.out]; omega) (by kernel_rfl) ?_; intro w1 B21 O1)
        | (refine wpl_set rfl 5 _ _ rfl (w.heap.size + 1 + 1) (4 * k + 1) rfl 30 _ _ rfl rfl rfl B21 (by simp only [Array.size_setIfInBounds, HSZ.out]; omega) (by kernel_rfl) ?_; intro w2 B22 O2)
        | (refine wpl_set rfl 5 _ _ rfl (w.heap.size + 1 + 1) (4 * k + 2) rfl 30 _ _ rfl rfl rfl B22 (by simp only [Array.size_setIfInBounds, HSZ.out]; omega) (by kernel_rfl) ?_; intro w3 B23 O3)
        | (refine wpl_set rfl 5 _ _ rfl (w.heap.size + 1 + 1) (4 * k + 3) rfl 30 _ _ rfl rfl rfl B23 (by simp only [Array.size_setIfInBounds, HSZ.out]; omega) (by kernel_rfl) ?_; intro w4 B24 O4))
      go_roundw
      case rel =>
        have hBe := O4.below (O3.below (O2.below (O1.below hbel (by omega)) (by omega)) (by omega)) (by omega)
        have hBZ := ((((BZ.only O1 (by omega)).only O2 (by omega)).only O3 (by omega)).only O4 (by omega))
        refine ⟨k + 1, by omega, by go_num, hBe, hBZ, ?_⟩
        have e0 : (x : Int) / 16777216 = ((x / 16777216 % 256 : Nat) : Int) := by omega
        have e1 : (x : Int) / 65536 % 256 = ((x / 65536 % 256 : Nat) : Int) := by omega
        have e2 : (x : Int) / 256 % 256 = ((x / 256 % 256 : Nat) : Int) := by omega
        have e3 : (x : Int) % 256 = ((x % 256 : Nat) : Int) := by omega
        rw [e0, e1, e2, e3] at B24
        have hl := HDl.out
        have p0 := c8_push (D.take (4 * k)) (31 - 4 * k) (4 * k) (x / 16777216 % 256) (by rw [List.length_take]; omega)
        have p1 := c8_push (D.take (4 * k) ++ [x / 16777216 % 256]) (30 - 4 * k) (4 * k + 1) (x / 65536 % 256) (by rw [List.length_append, List.length_take]; simp; omega)
        have p2 := c8_push (D.take (4 * k) ++ [x / 16777216 % 256] ++ [x / 65536 % 256]) (29 - 4 * k) (4 * k + 2) (x / 256 % 256) (by rw [List.length_append, List.length_append, List.length_take]; simp; omega)
        have p3 := c8_push (D.take (4 * k) ++ [x / 16777216 % 256] ++ [x / 65536 % 256] ++ [x / 256 % 256]) (28 - 4 * k) (4 * k + 3) (x % 256) (by rw [List.length_append, List.length_append, List.length_append, List.length_take]; simp; omega)
        rw [show 31 - 4 * k + 1 = 32 - 4 * k by omega] at p0
        rw [show 30 - 4 * k + 1 = 31 - 4 * k by omega] at p1
        rw [show 29 - 4 * k + 1 = 30 - 4 * k by omega] at p2
        rw [show 28 - 4 * k + 1 = 29 - 4 * k by omega] at p3
        have hB : Blk w4 (w.heap.size + 1 + 1) 30 (((((c8 (D.take (4 * k) ++ List.replicate (32 - 4 * k) 0)).setIfInBounds (4 * k) (v8 (x / 16777216 % 256))).setIfInBounds (4 * k + 1) (v8 (x / 65536 % 256))).setIfInBounds (4 * k + 2) (v8 (x / 256 % 256))).setIfInBounds (4 * k + 3) (v8 (x % 256))) := B24
        rw [p0, p1, p2, p3] at hB
        have eD : D.take (4 * (k + 1)) = D.take (4 * k) ++ [x / 16777216 % 256] ++ [x / 65536 % 256] ++ [x / 256 % 256] ++ [x % 256] := by
          rw [HD.out, bytesR_pre r (k + 1) (by rw [HR.out]; omega), bytesR_pre r k (by rw [HR.out]; omega), bytesR_take r k (by rw [HR.out]; omega), ← EX.out]
          simp [bytesW]
        rw [eD, show 32 - 4 * (k + 1) = 28 - 4 * k by omega]
        exact hB
      case measure => simp [intOf]; omega
    · have dk : decide ((k : Int) < 8) = false := decide_eq_false (by omega)
      have BD' : Blk wr (w.heap.size + 1 + 1) 30 ([] ++ D.map v8 ++ []).toArray := by
        have h := B2
        rw [show 32 - 4 * k = 0 by omega, List.replicate_zero, List.append_nil, List.take_of_length_le (by rw [HDl.out]; omega)] at h
        rw [List.nil_append, List.append_nil]
        exact h
      have BZ' : Blk wr (w.heap.size + 1) 30 ([] ++ (List.replicate 32 0).map v8 ++ []).toArray := BZ
      have HB := Lib.hid BD'; have HBZ := Lib.hid BZ'
      clear B2 BD' BZ BZ'
      go_wp2_with (first
        | (refine wpl_load rfl 30 _ rfl (w.heap.size + 1 + 1) 0 rfl 30 [] (D.map v8) [] HB.out rfl _ Tryd.underlying30 rfl (by rw [List.length_map, HDl.out]; kernel_rfl) ?_)
        | (refine wpl_store rfl 30 _ _ rfl (w.heap.size + 1) 0 rfl 30 [] ((List.replicate 32 0).map v8) [] (D.map v8) rfl HBZ.out rfl (by rw [List.length_map, HDl.out]; rfl) (by rw [List.length_map, HDl.out]; kernel_rfl) (v8_one D) ?_; intro w9 B9 O9))
      exact bodyPost_ret (results_cell_row rfl _ _ (w.heap.size + 1) 30 (D.map v8).toArray (0, 0) _ rfl (by have h9 := B9; rw [List.nil_append, List.append_nil] at h9; exact h9) Tryd.underlying30 rfl (by rw [show (D.map v8).toArray.size = 32 by simp [HDl.out]]; kernel_rfl)) rfl ⟨rfl, O9.below hbel (by omega)⟩
def TabF (w : World) : Prop := ∀ j, j < 8 → w.cell? ⟨0, j, none⟩ = some (v32 (first.getD j 0))
theorem TabF.below {w w' : World} {B : Nat} (h : TabF w) (hb : Below B w w') (hB : 0 < B) : TabF w' := fun j hj => (hb.cell (p := ⟨0, j, none⟩) hB).trans (h j hj)
theorem first_len : first.length = 8 := rfl
theorem first_all : All 4294967296 first := by intro x hx; revert x; decide
set_option maxRecDepth 100000 in
set_option maxHeartbeats 400000 in
theorem new_any (w : World) (hf : TabF w) :
    Calls Tryd.prog 18 #[] w fun e w' => e = .returned (.pointer (some ⟨w.heap.size, 0, none⟩)) ∧ w.alloc (.cells (hcells first (List.replicate 64 0) 0).toArray 62) = w' := by
  have q0 : w.cell? ⟨0, 0, none⟩ = some (.int .u32 1779033703) := hf 0 (by decide)
  have q1 : w.cell? ⟨0, 1, none⟩ = some (.int .u32 3144134277) := hf 1 (by decide)
  have q2 : w.cell? ⟨0, 2, none⟩ = some (.int .u32 1013904242) := hf 2 (by decide)
  have q3 : w.cell? ⟨0, 3, none⟩ = some (.int .u32 2773480762) := hf 3 (by decide)
  have q4 : w.cell? ⟨0, 4, none⟩ = some (.int .u32 1359893119) := hf 4 (by decide)
  have q5 : w.cell? ⟨0, 5, none⟩ = some (.int .u32 2600822924) := hf 5 (by decide)
  have q6 : w.cell? ⟨0, 6, none⟩ = some (.int .u32 528734635) := hf 6 (by decide)
  have q7 : w.cell? ⟨0, 7, none⟩ = some (.int .u32 1541459225) := hf 7 (by decide)
  have H := Lib.hid hf
  clear hf
  have hzero : ∀ W : World, (zeroValue 62).run Tryd.prog W = .ok (.agg (hcells (List.replicate 8 0) (List.replicate 64 0) 0).toArray) W := fun W => by kernel_rfl
  go_enter Tryd.func18, Tryd.ntmps18
  go_wp2
  go_ret
  exact ⟨rfl, rfl⟩
set_option maxRecDepth 100000 in
set_option maxHeartbeats 400000 in
theorem rbegin_any (w : World) :
    Calls Tryd.prog 22 #[] w fun e w' => e = .returned (.agg #[.int .u32 1779033703, .int .u32 3144134277, .int .u32 1013904242, .int .u32 2773480762, .int .u32 1359893119, .int .u32 2600822924, .int .u32 528734635, .int .u32 1541459225]) ∧ Below w.heap.size w w' := by
  go_enter Tryd.func22, Tryd.ntmps22
  go_wp2
  exact bodyPost_ret (results_cell_row rfl _ _ w.heap.size 46 _ (0, 0) _ rfl (Blk.new w 46 _) Tryd.underlying46 rfl (by kernel_rfl)) rfl ⟨rfl, (Below.refl _ _).alloc (Nat.le_refl _) _⟩
/-- The sum of bytes. -/
def sumOf (p : List Nat) : List Nat := total first 0 p
theorem total_len (r : List Nat) (past : Nat) (p : List Nat) (hr : r.length = 8) : (total r past p).length = 32 := by unfold total; rw [bytesR_len, blocks_len hr]
theorem sumOf_len (p : List Nat) : (sumOf p).length = 32 := total_len _ _ _ first_len
set_option maxRecDepth 100000 in
set_option maxHeartbeats 400000 in
theorem rsum_any (p : List Nat) (A : Option Addr) (c : Nat) (w : World) (hp : p.length ≤ 100000000000000) (hpa : All 256 p) (hbs : C8 w A p.length p) (ht : Tab2 w) (h2 : 2 < w.heap.size) :
    Calls Tryd.prog 11 #[.slice A p.length c] w fun e w' => e = .returned (.agg ((sumOf p).map v8).toArray) ∧ Below w.heap.size w w' := by
  obtain ⟨D, hD⟩ : ∃ D, D = sumOf p := ⟨_, rfl⟩
  have hDl : D.length = 32 := by rw [hD]; exact sumOf_len p
  have hcall : ∀ W : World, Below w.heap.size w W → Calls Tryd.prog 21 #[.agg #[.int .u32 1779033703, .int .u32 3144134277, .int .u32 1013904242, .int .u32 2773480762, .int .u32 1359893119, .int .u32 2600822924, .int .u32 528734635, .int .u32 1541459225, .int .u64 0, .slice A p.length c]] W fun e w' => e = .returned (.agg (D.map v8).toArray) ∧ Below W.heap.size W w' := fun W hb => by
    rw [hD]
    exact rtotal_any first p 0 A c W first_len first_all hp hpa (by decide) (hbs.below hb) (ht.below hb h2) (Nat.lt_of_lt_of_le h2 hb.size)
  rw [← hD]
  have HC := Lib.hid hcall; have HDl := Lib.hid hDl; have HBS := Lib.hid hbs; have HT := Lib.hid ht
  clear hcall hD hDl hbs ht
  go_enter Tryd.func11, Tryd.ntmps11
  go_wp2_with (first
    | (go_at_call 22; (with_reducible refine (rbegin_any _).mono ?_); rintro e w1 ⟨rfl, hb1⟩
       have hbw1 : Below w.heap.size w w1 := ((Below.refl _ _).alloc (Nat.le_refl _) _).trans (hb1.mono (by simp))
       have BZ1 : Blk w1 w.heap.size 30 (c8 (List.replicate 32 0)) := (Blk.new w 30 (c8 (List.replicate 32 0))).below hb1 (by simp))
    | (go_at_call 21; (with_reducible refine (HC.out _ hbw1).mono ?_); rintro e w2 ⟨rfl, hb2⟩
       have BZ2 : Blk w2 w.heap.size 30 ([] ++ (List.replicate 32 0).map v8 ++ []).toArray := BZ1.below hb2 BZ1.lt
       have hbw2 := hbw1.trans (hb2.mono hbw1.size))
    | (refine wpl_store rfl 30 _ _ rfl w.heap.size 0 rfl 30 [] ((List.replicate 32 0).map v8) [] (D.map v8) rfl BZ2 rfl (by rw [List.length_map, HDl.out]; rfl) (by rw [List.length_map, HDl.out]; kernel_rfl) (v8_one D) ?_; intro w9 B9 O9))
  exact bodyPost_ret (results_cell_row rfl _ _ w.heap.size 30 (D.map v8).toArray (0, 0) _ rfl (by have h9 := B9; rw [List.nil_append, List.append_nil] at h9; exact h9) Tryd.underlying30 rfl (by rw [show (D.map v8).toArray.size = 32 by simp [HDl.out]]; kernel_rfl)) rfl ⟨rfl, O9.below hbw2 (Nat.le_refl _)⟩
set_option maxRecDepth 100000 in
set_option maxHeartbeats 400000 in
theorem write_none (g : Nat) (A : Option Addr) (c : Nat) (w : World) :
    Calls Tryd.prog 19 #[.pointer (some ⟨g, 0, none⟩), .slice A 0 c] w fun e w' => e = .returned (.tuple #[]) ∧ w = w' := by
  go_enter Tryd.func19, Tryd.ntmps19
  go_wp2
  go_loopw [1] (fun v wr => v = .slice A 0 c ∧ w = wr) (fun v _ => 0)
  case atStart => exact ⟨rfl, rfl⟩
  case round =>
    obtain ⟨rfl, rfl⟩ := hrel
    go_wp2
    go_end0
    exact ⟨rfl, rfl⟩
/-- Write, whatever comes in. -/
theorem write_c (g past : Nat) (r all p : List Nat) (A : Option Addr) (n c : Nat) (w : World) (hr : r.length = 8) (hra : All 4294967296 r) (hpast : past % 64 = 0) (hmax : past + all.length + p.length ≤ 2305843009213693952)
    (hH : HashAt w g r past all) (hall : All 256 all) (hn : n = p.length) (hpc : n ≤ c) (hpa : All 256 p) (hC : C8 w A p.length p) (hbg : 0 < p.length → ∀ b o, A = some ⟨b, o, none⟩ → b ≠ g) (ht : Tab1 w) (h1 : 1 < w.heap.size) (h1g : 1 ≠ g) :
    Calls Tryd.prog 19 #[.pointer (some ⟨g, 0, none⟩), .slice A n c] w fun e w' => e = .returned (.tuple #[]) ∧ HashAt w' g r past (all ++ p) ∧ w.grownBy w' (some g) := by
  subst hn
  rcases Nat.eq_zero_or_pos p.length with h0 | h0
  · have hp : p = [] := List.eq_nil_of_length_eq_zero h0
    subst hp
    refine (write_none g A c w).mono fun e w' ⟨he, hw⟩ => ?_
    subst hw
    exact ⟨he, by rw [List.append_nil]; exact hH, World.grownBy.refl w _⟩
  · obtain ⟨b, o, rfl, hb, hbs⟩ := hC.at_ h0
    exact write_any g past r all p b o c w hr hra hpast hmax hH hall h0 hpc hpa hbs hb (hbg h0 b o rfl) ht h1 h1g
theorem hcells_len (R rest : List Nat) (tk : Nat) (hR : R.length = 8) (hr : rest.length = 64) : (hcells R rest tk).length = 73 := by simp [hcells, hR, hr]
theorem hcells_one (R rest : List Nat) (tk : Nat) : ∀ v ∈ hcells R rest tk, v.oneCell' = true := by
  intro v hv
  unfold hcells at hv
  rcases List.mem_append.1 hv with h | h
  · rcases List.mem_append.1 h with h | h
    · exact one32 _ v h
    · exact v8_one _ v h
  · rw [List.mem_singleton.1 h]; rfl
/-- What is laid behind the bytes. -/
def padTail (all : List Nat) (n : Nat) : List Nat := [128] ++ List.replicate (zeros all.length) 0 ++ eight n
theorem padTail_app (all : List Nat) (n : Nat) : all ++ padTail all n = padOf all n := by simp [padTail, padOf]
theorem HashAt.keep {w w' : World} {g : Nat} {r all : List Nat} {past : Nat} (h : HashAt w g r past all) (hk : w'.heap[g]? = w.heap[g]?) : HashAt w' g r past all := by
  obtain ⟨rest, hB, h1, h2, h3⟩ := h
  exact ⟨rest, hk.trans hB, h1, h2, h3⟩
theorem HashAt.lt {w : World} {g : Nat} {r all : List Nat} {past : Nat} (h : HashAt w g r past all) : g < w.heap.size := by
  obtain ⟨rest, hB, _⟩ := h
  exact hB.lt
set_option maxRecDepth 100000 in
set_option maxHeartbeats 800000 in
theorem hsum_any (g past : Nat) (r all : List Nat) (w : World) (hr : r.length = 8) (hra : All 4294967296 r) (hpast : past % 64 = 0) (hmax : past + all.length ≤ 1152921504606846976 + 150000000000000)
    (hH : HashAt w g r past all) (hall : All 256 all) (ht : Tab1 w) (h1 : 1 < w.heap.size) :
    Calls Tryd.prog 20 #[.pointer (some ⟨g, 0, none⟩)] w fun e w' => e = .returned (.agg ((total r past all).map v8).toArray) ∧ Below w.heap.size w w' := by
  obtain ⟨rest, hB, hrl, hrest, htl⟩ := hH
  obtain ⟨R, hR⟩ : ∃ R, R = regOf r all := ⟨_, rfl⟩
  have hRl : R.length = 8 := by rw [hR]; exact regOf_len hr all
  obtain ⟨tk, htk⟩ : ∃ tk, tk = past + all.length := ⟨_, rfl⟩
  rw [← hR, ← htk] at hB
  obtain ⟨Z, hZ⟩ : ∃ Z, Z = zeros all.length := ⟨_, rfl⟩
  have hZ1 : Z = (119 - tk % 64) % 64 := by rw [hZ, htk]; unfold zeros; omega
  have hgl := hB.lt
  have HH : Hid (HashAt w g r past all) := ⟨rest, by rw [← hR, ← htk]; exact hB, hrl, hrest, htl⟩
  have c72 : w.cell? ⟨g, 72, none⟩ = some (.int .u64 (tk : Int)) := (hB.cell 72).trans (hcells_72 R rest tk hRl hrl)
  have HRL := Lib.hid hRl; have HRR := Lib.hid hR; have HTK := Lib.hid htk; have HZ := Lib.hid hZ; have HB := Lib.hid hB; have HRS := Lib.hid hrl; have HP := Lib.hid hpast; have HR := Lib.hid hr; have HTL := Lib.hid htl; have HT := Lib.hid ht
  have htk2 : tk ≤ 1152921504606846976 + 150000000000000 := by omega
  clear hRl hR htk hZ hB hrl hpast hr htl ht hmax
  have i0 : (0 : Int) ≤ (tk : Int) := by omega
  have i1 : (tk : Int) ≤ 1153071504606846976 := by omega
  have hC0 : Hid (Blk ((w.alloc (.cells (c8 (List.replicate 32 0)) 30))) g 62 ([] ++ hcells R rest tk ++ []).toArray) := by
    show Blk _ _ _ _
    rw [List.nil_append, List.append_nil]
    exact HB.out.alloc _
  have hzero : ∀ W : World, (zeroValue 62).run Tryd.prog W = .ok (.agg (hcells (List.replicate 8 0) (List.replicate 64 0) 0).toArray) W := fun W => by kernel_rfl
  go_enter Tryd.func20, Tryd.ntmps20
  go_wp2_with (first
    | (refine wpl_load rfl 62 _ rfl g 0 rfl 62 [] (hcells R rest tk) [] hC0.out rfl _ Tryd.underlying62 rfl (by rw [hcells_len R rest tk HRL.out HRS.out]; kernel_rfl) ?_)
    | (refine wpl_store rfl 62 _ _ rfl (w.heap.size + 1) 0 rfl 62 [] (hcells (List.replicate 8 0) (List.replicate 64 0) 0) [] (hcells R rest tk) rfl
        (by rw [List.nil_append, List.append_nil]; exact Blk.new_ (w.alloc _) 62 (hcells (List.replicate 8 0) (List.replicate 64 0) 0).toArray _ (by simp)) rfl (by rw [hcells_len R rest tk HRL.out HRS.out]; rfl) (by rw [hcells_len R rest tk HRL.out HRS.out]; kernel_rfl) (hcells_one R rest tk) ?_
       intro w2 B2 O2))
  have hsz2 : w2.heap.size = w.heap.size + 1 + 1 := by rw [O2.size]; simp
  have hb2 : Below w.heap.size w w2 := O2.below (((Below.refl _ _).alloc (Nat.le_refl _) _).alloc (by simp) _) (by omega)
  have BZ2 : Blk w2 w.heap.size 30 (c8 (List.replicate 32 0)) := (((Blk.new w 30 (c8 (List.replicate 32 0))).alloc _).only O2 (by omega))
  have BC2 : Blk w2 (w.heap.size + 1) 62 (hcells R rest tk).toArray := by
    have h := B2
    rw [List.nil_append, List.append_nil] at h
    exact h
  have O128 : Own (w2.alloc (.cells #[.int .u8 128] 5)) w.heap.size (.slice (some ⟨w2.heap.size, 0, none⟩) 1 1) [128] := Own.of_Blk (p := [128]) (Blk.new w2 5 (c8 [128])) (by omega) (by decide)
  have hb3 := hb2.alloc hb2.size (.cells #[.int .u8 128] 5)
  have BZ3 := BZ2.alloc (.cells #[.int .u8 128] 5)
  have BC3 := BC2.alloc (.cells #[.int .u8 128] 5)
  clear B2 BZ2 BC2 O2 hb2 hsz2
  have hlen : ∀ z, ([128] ++ List.replicate z 0 : List Nat).length = 1 + z := fun z => by simp; omega
  have HLEN := Lib.hid hlen
  clear hlen
  go_loopw [4] (fun v wr => ∃ z : Nat, z ≤ Z ∧ Own wr w.heap.size v ([128] ++ List.replicate z 0) ∧ Below w.heap.size w wr ∧ Blk wr w.heap.size 30 (c8 (List.replicate 32 0)) ∧ Blk wr (w.heap.size + 1) 62 (hcells R rest tk).toArray) (fun v _ => 70 - slen v)
  case atStart => exact ⟨0, by omega, O128, hb3, BZ3, BC3⟩
  case round =>
    clear O128 hb3 BZ3 BC3
    obtain ⟨z, hz, O, hbel, BZ, BC⟩ := hrel
    obtain ⟨A4, n4, c4, hn4, rfl, hC4⟩ := O.arg_
    rw [HLEN.out] at hn4 hC4
    have hn4' : n4 = 1 + z := hn4
    have j0 : (0 : Int) ≤ (n4 : Int) := by omega
    have j1 : (n4 : Int) ≤ 100 := by omega
    have d72 : wr.cell? ⟨w.heap.size + 1, 72, none⟩ = some (.int .u64 (tk : Int)) := (BC.cell 72).trans (hcells_72 R rest tk HRL.out HRS.out)
    have hs := hbel.size
    by_cases hlt : z < Z
    · have t1 : (((tk : Int) + (n4 : Int)) % 64 != 56) = true := by
        have : ¬ (((tk : Int) + (n4 : Int)) % 64 = 56) := by omega
        simpa using this
      have HN := Lib.hid hn4'
      have hO := Lib.hid O
      clear hn4 hn4'
      go_wp2_with (at_builtin; refine wpl_append rfl _ _ _ rfl info_byte Tryd.underlying32 w.heap.size _ _ rfl (hO.out.alloc _) _ _ _ [0] rfl rfl (C8.one_ _ 0 0 rfl _ rfl) (by rw [HLEN.out]; simp; omega) (by simp; omega) ?_; intro v3 w3 O3 G3 _)
      go_roundw
      case rel =>
        refine ⟨z + 1, by omega, ?_, (hbel.alloc hs _).grown G3 (by simp; omega) (fun k hk => (hO.out.lt k hk).1), (BZ.alloc _).grown G3 (hO.out.ne BZ (by decide)), (BC.alloc _).grown G3 (hO.out.ne BC (by decide))⟩
        rw [List.replicate_succ', ← List.append_assoc]
        exact O3
      case measure =>
        obtain ⟨A5, n5, c5, hn5, rfl, _⟩ := O3.arg_
        have h1 := HN.out
        have h2 := HLEN.out z
        simp only [slen_slice]
        rw [List.length_append, h2] at hn5
        simp at hn5
        omega
    · have t1 : (((tk : Int) + (n4 : Int)) % 64 != 56) = false := by
        have : (((tk : Int) + (n4 : Int)) % 64 = 56) := by omega
        simpa using this
      have hzZ : z = Z := by omega
      obtain ⟨q4, hq4⟩ : ∃ q4, q4 = ([128] ++ List.replicate z 0 : List Nat) := ⟨_, rfl⟩
      rw [← hq4] at O
      have HN : Hid (n4 = q4.length) := by rw [hq4, HLEN.out]; exact hn4
      obtain ⟨N, hN⟩ : ∃ N, N = 8 * tk := ⟨_, rfl⟩
      obtain ⟨E, hE⟩ : ∃ E, E = eight N := ⟨_, rfl⟩
      have hEl : E.length = 8 := by rw [hE]; exact eight_len N
      have hEa : All 256 E := by rw [hE]; exact eight_all N
      have h8 : ∀ W : World, Calls Tryd.prog 29 #[.int .u64 ((tk : Int) * 8)] W fun e w' => ∃ v, e = .returned v ∧ Own w' W.heap.size v E ∧ Below W.heap.size W w' := fun W => by
        have h := eight_any N W (by omega)
        rw [← hE] at h
        rw [show (N : Int) = (tk : Int) * 8 by omega] at h
        exact h
      have HQ : Hid (padTail all N = q4 ++ E) := by
        show padTail all N = _
        rw [hq4, hE, hzZ, HZ.out]
        rfl
      have hqa : All 256 (padTail all N) := ((All.one (by decide)).app (All.rep (by decide) _)).app (eight_all N)
      have hql : (padTail all N).length = n4 + 8 := by rw [HQ.out, List.length_append, hEl, HN.out]
      obtain ⟨q, hq⟩ : ∃ q, q = padTail all N := ⟨_, rfl⟩
      rw [← hq] at hqa hql HQ
      have HQL := Lib.hid hql; have HQE := Lib.hid hq; have H8 := Lib.hid h8; have HEl := Lib.hid hEl; have HNN := Lib.hid hN
      have hO := Lib.hid O
      have n4b : n4 ≤ 100 := by omega
      have e72 : wr.cell? ⟨g, 72, none⟩ = some (.int .u64 (tk : Int)) := (hbel.cell (p := ⟨g, 72, none⟩) hgl).trans c72
      clear hn4 hn4' hC4 hzZ hq4 hN hE hEl h8 hql hq
      go_wp2_with (first
        | (go_at_call 29; (with_reducible refine (H8.out _).mono ?_); rintro e w5 ⟨v5, rfl, O5, hb5⟩; obtain ⟨A5, n5, c5, hn5, rfl, hC5⟩ := O5.arg_; have HN5 := Lib.hid hn5; clear hn5)
        | (at_builtin; refine wpl_append rfl _ _ _ rfl info_byte Tryd.underlying32 w.heap.size _ _ rfl (hO.out.below hb5) _ _ _ E rfl HN5.out hC5 (by rw [← HN.out, HEl.out]; omega) (by have := hb5.size; omega) ?_; intro v6 w6 O6 G6 _
           have BC6 := (BC.below hb5 BC.lt).grown G6 (hO.out.ne BC (by decide)); have BZ6 := (BZ.below hb5 BZ.lt).grown G6 (hO.out.ne BZ (by decide))
           have hb6 := (hbel.trans (hb5.mono hs)).grown G6 (by have := hb5.size; omega) (fun k hk => (hO.out.lt k hk).1)
           have hne6 := O6.ne BC6 (by decide)
           rw [← HQ.out] at O6; obtain ⟨A6, c6, hv6, hle6, hC6⟩ := O6.arg; subst hv6)
        | (go_at_call 19
           refine ((write_c (w.heap.size + 1) past r all q A6 q.length c6 _ HR.out hra HP.out (by rw [HQL.out]; have := HTK.out; omega) ⟨rest, by rw [← HRR.out, ← HTK.out]; exact BC6, HRS.out, hrest, HTL.out⟩ hall rfl hle6 hqa hC6
              (fun _ b o e h => by subst e; subst h; exact hne6 rfl) (HT.out.below hb6 h1) (by have := hb6.size; omega) (by omega)).mono ?_); rintro e w7 ⟨rfl, H7, G7⟩
           obtain ⟨rest7, B7, hrl7, hrest7, htl7⟩ := H7
           have BZ7 := BZ6.grown G7 (by simp)
           have hb7 : Below w.heap.size w w7 := hb6.grown G7 hb6.size (fun k hk => by injection hk; omega)
           clear htl7
           obtain ⟨R7, hR7⟩ : ∃ R7, R7 = regOf r (all ++ q) := ⟨_, rfl⟩
           rw [← hR7] at B7
           have HR7l : Hid (R7.length = 8) := by rw [hR7]; exact regOf_len HR.out _
           have HR7a : All 4294967296 R7 := by rw [hR7]; exact regOf_all hra _
           have HR7 := Lib.hid hR7
           have HB7 : Hid (Blk w7 (w.heap.size + 1) 62 ([] ++ R7.map v32 ++ (rest7.map v8 ++ [Value.int .u64 ((past + (all ++ q).length : Nat) : Int)])).toArray) := by
             have h := B7
             unfold hcells at h
             rw [List.append_assoc] at h
             exact h
           clear hR7 B7)
        | (refine wpl_load rfl 59 _ rfl (w.heap.size + 1) 0 rfl 62 [] (R7.map v32) _ HB7.out rfl _ Tryd.underlying59 rfl (by rw [List.length_map, HR7l.out]; kernel_rfl) ?_)
        | (go_at_call 30; (with_reducible refine (bytes_any R7 _ HR7l.out HR7a).mono ?_); rintro e w8 ⟨rfl, hb8⟩
           have BZ8 : Blk w8 w.heap.size 30 ([] ++ (List.replicate 32 0).map v8 ++ []).toArray := BZ7.below hb8 BZ7.lt
           have hb8' := hb7.trans (hb8.mono hb7.size))
        | (refine wpl_store rfl 30 _ _ rfl w.heap.size 0 rfl 30 [] ((List.replicate 32 0).map v8) [] ((bytesR R7).map v8) rfl BZ8 rfl (by rw [List.length_map, bytesR_len, HR7l.out]; rfl) (by rw [List.length_map, bytesR_len, HR7l.out]; kernel_rfl) (v8_one _) ?_; intro w9 B9 O9))
      have e : total r past all = bytesR R7 := by
        rw [HR7.out, HQE.out, HNN.out, HTK.out, padTail_app]
        rfl
      rw [e]
      exact bodyPost_ret (results_cell_row rfl _ _ w.heap.size 30 ((bytesR R7).map v8).toArray (0, 0) _ rfl (by have h9 := B9; rw [List.nil_append, List.append_nil] at h9; exact h9) Tryd.underlying30 rfl (by rw [show ((bytesR R7).map v8).toArray.size = 32 by simp [bytesR_len, HR7l.out]]; kernel_rfl)) rfl ⟨rfl, O9.below hb8' (Nat.le_refl _)⟩
set_option maxRecDepth 100000 in
set_option maxHeartbeats 800000 in
theorem sum_any (p : List Nat) (A : Option Addr) (c : Nat) (w : World) (hp : p.length ≤ 150000000000000) (hpc : p.length ≤ c) (hpa : All 256 p) (hC : C8 w A p.length p) (ht : Tab1 w) (hf : TabF w) (h1 : 1 < w.heap.size) :
    Calls Tryd.prog 10 #[.slice A p.length c] w fun e w' => e = .returned (.agg ((sumOf p).map v8).toArray) ∧ Below w.heap.size w w' := by
  obtain ⟨n, hn⟩ : ∃ n, n = p.length := ⟨_, rfl⟩
  rw [← hn] at hp hpc
  rw [← hn]
  have HN := Lib.hid hn; have HC := Lib.hid hC; have HT := Lib.hid ht; have HF := Lib.hid hf
  clear hn hC ht hf
  obtain ⟨D, hD⟩ : ∃ D, D = sumOf p := ⟨_, rfl⟩
  have hDl : D.length = 32 := by rw [hD]; exact sumOf_len p
  rw [← hD]
  have HD := Lib.hid hD; have HDl := Lib.hid hDl
  clear hD hDl
  go_enter Tryd.func10, Tryd.ntmps10
  go_wp2_with (first
    | (go_at_call 18; (with_reducible refine (new_any _ (HF.out.below ((Below.refl w.heap.size w).alloc (Nat.le_refl _) _) (by omega))).mono ?_); rintro e w1 ⟨rfl, hw1⟩
       have H1 : HashAt w1 (w.heap.size + 1) first 0 [] := by
         rw [← hw1]; exact ⟨List.replicate 64 0, Blk.new_ (w.alloc _) 62 _ _ (by simp), rfl, All.rep (by decide) 64, rfl⟩
       have hb1 : Below w.heap.size w w1 := by rw [← hw1]; exact ((Below.refl w.heap.size w).alloc (Nat.le_refl _) _).alloc (by simp) _
       have BZ1 : Blk w1 w.heap.size 30 (c8 (List.replicate 32 0)) := by rw [← hw1]; exact (Blk.new w 30 _).alloc _
       clear hw1)
    | (go_at_call 19
       refine ((write_c (w.heap.size + 1) 0 first [] p A n c _ first_len first_all rfl (by rw [← HN.out]; simp; omega) H1 All.nil HN.out hpc hpa (HC.out.below hb1)
         (fun h0 b o e h => by obtain ⟨b', o', e', hlt', _⟩ := HC.out.at_ h0; rw [e'] at e; injection e with e; injection e with e; omega) (HT.out.below hb1 h1) (by have := hb1.size; omega) (by omega)).mono ?_); rintro e w2 ⟨rfl, H2, G2⟩
       rw [List.nil_append] at H2
       have BZ2 := BZ1.grown G2 (by simp)
       have hb2 : Below w.heap.size w w2 := hb1.grown G2 hb1.size (fun k hk => by injection hk; omega))
    | (go_at_call 20
       refine ((hsum_any (w.heap.size + 1) 0 first p _ first_len first_all rfl (by rw [← HN.out]; omega) H2 hpa (HT.out.below hb2 h1) (by have := hb2.size; omega)).mono ?_); rintro e w3 ⟨he3, hb3⟩
       rw [show total first 0 p = D from HD.out.symm] at he3
       subst he3
       have BZ3 : Blk w3 w.heap.size 30 ([] ++ (List.replicate 32 0).map v8 ++ []).toArray := BZ2.below hb3 BZ2.lt
       have hb3' := hb2.trans (hb3.mono hb2.size))
    | (refine wpl_store rfl 30 _ _ rfl w.heap.size 0 rfl 30 [] ((List.replicate 32 0).map v8) [] (D.map v8) rfl BZ3 rfl (by rw [List.length_map, HDl.out]; rfl) (by rw [List.length_map, HDl.out]; kernel_rfl) (v8_one D) ?_; intro w9 B9 O9))
  exact bodyPost_ret (results_cell_row rfl _ _ w.heap.size 30 (D.map v8).toArray (0, 0) _ rfl (by have h9 := B9; rw [List.nil_append, List.append_nil] at h9; exact h9) Tryd.underlying30 rfl (by rw [show (D.map v8).toArray.size = 32 by simp [HDl.out]]; kernel_rfl)) rfl ⟨rfl, O9.below hb3' (Nat.le_refl _)⟩
theorem HashAt.alloc {w : World} {g : Nat} {r all : List Nat} {past : Nat} (h : HashAt w g r past all) (o : Obj) : HashAt (w.alloc o) g r past all := h.keep (Below.heap_alloc w o g h.lt)
theorem HashAt.below {w w' : World} {g : Nat} {r all : List Nat} {past : Nat} (h : HashAt w g r past all) (hb : Below w.heap.size w w') : HashAt w' g r past all := h.keep (hb.block g h.lt)
/-- The tables as they lie when the call begins. -/
def Tabs (w : World) : Prop := Tab1 w ∧ Tab2 w ∧ TabF w ∧ 2 < w.heap.size
theorem Tabs.below {w w' : World} (h : Tabs w) (hb : Below w.heap.size w w') : Tabs w' :=
  ⟨h.1.below hb (by have := h.2.2.2; omega), h.2.1.below hb h.2.2.2, h.2.2.1.below hb (by have := h.2.2.2; omega), Nat.lt_of_lt_of_le h.2.2.2 hb.size⟩
theorem tab_of_reads {W : World} {name : String} {zs : List Nat} {g t n : Nat} {d : DataW Unit} (hd : d = Lib.tabData .u32 (toI zs)) (hg : Tryd.prog.globalNamed name = some g) (hty : (Tryd.prog.globals[g]?).map (·.type) = some t)
    (ht : Tryd.prog.underlying t = some (.array n 45)) (hct : Tryd.prog.cellsOf t = n) (h : Lib.VarReads Tryd.prog W name d) : ∀ j, j < zs.length → W.cell? ⟨g, j, none⟩ = some (v32 (zs.getD j 0)) := by
  obtain ⟨g', t', cs, fuel, p, hg', ht', hvar, hr⟩ := h
  obtain rfl := Option.some.inj (hg.symm.trans hg')
  obtain rfl := Option.some.inj (hty.symm.trans ht')
  rw [hd] at hr
  have hc := Lib.cells_of_tab ht Tryd.underlying45 (by kernel_rfl) hct hr
  have hT : Lib.TabIs Tryd.prog W name .u32 (toI zs) := by unfold Lib.TabIs; rw [hvar, ← hc]
  intro j hj
  have := hT.cell hg j (by rw [toI_len]; exact hj)
  rw [toI_getD] at this
  exact this
theorem tab1_of_laid {W : World} {l : List (String × DataW Unit)} (h : laidMet Tryd.prog l W) (hm : ("wicket/digest.roots", Rows.laid_wicket_digest_roots) ∈ l) : Tab1 W ∧ 1 < W.heap.size := by
  have h1 : Tab1 W := tab_of_reads (zs := roots) (by kernel_rfl) (by kernel_rfl) (by kernel_rfl) Tryd.underlying71 (by kernel_rfl) (Lib.laidMet.reads h hm)
  exact ⟨h1, block_lt_of_cell (a := ⟨1, 0, none⟩) (h1 0 (by decide))⟩
theorem tabF_of_laid {W : World} {l : List (String × DataW Unit)} (h : laidMet Tryd.prog l W) (hm : ("wicket/digest.first", Rows.laid_wicket_digest_first) ∈ l) : TabF W :=
  tab_of_reads (zs := first) (by kernel_rfl) (by kernel_rfl) (by kernel_rfl) Tryd.underlying59 (by kernel_rfl) (Lib.laidMet.reads h hm)
theorem tab2_of_laid {W : World} {l : List (String × DataW Unit)} (h : laidMet Tryd.prog l W) (hm : ("wicket/wicketref02.roots", Rows.laid_wicket_wicketref02_roots) ∈ l) : Tab2 W ∧ 2 < W.heap.size := by
  have h1 : Tab2 W := tab_of_reads (zs := roots) (by kernel_rfl) (by kernel_rfl) (by kernel_rfl) Tryd.underlying71 (by kernel_rfl) (Lib.laidMet.reads h hm)
  exact ⟨h1, block_lt_of_cell (a := ⟨2, 0, none⟩) (h1 0 (by decide))⟩
end Go.Proofs.YtaeipffenlkjpaaDoor.Sha
