/-
  SHA-256 on lists of naturals, the coding of words as bytes, and what of it the walks want.
-/
namespace Go.Proofs.YtfedlgcpgfofjaaDoor.Sha
set_option linter.unusedVariables false
/-- a right turn of a word -/
def rotr (x n : Nat) : Nat := x / 2 ^ n ||| x * 2 ^ (32 - n) % 4294967296
def sg0 (x : Nat) : Nat := rotr x 7 ^^^ rotr x 18 ^^^ x / 8
def sg1 (x : Nat) : Nat := rotr x 17 ^^^ rotr x 19 ^^^ x / 1024
def bg0 (x : Nat) : Nat := rotr x 2 ^^^ rotr x 13 ^^^ rotr x 22
def bg1 (x : Nat) : Nat := rotr x 6 ^^^ rotr x 11 ^^^ rotr x 25
def cho (e f g : Nat) : Nat := (e &&& f) ^^^ ((4294967295 - e) &&& g)
def maj (a b c : Nat) : Nat := (a &&& b) ^^^ (a &&& c) ^^^ (b &&& c)
def roots : List Nat := [
  0x428a2f98, 0x71374491, 0xb5c0fbcf, 0xe9b5dba5, 0x3956c25b, 0x59f111f1, 0x923f82a4, 0xab1c5ed5,
  0xd807aa98, 0x12835b01, 0x243185be, 0x550c7dc3, 0x72be5d74, 0x80deb1fe, 0x9bdc06a7, 0xc19bf174,
  0xe49b69c1, 0xefbe4786, 0x0fc19dc6, 0x240ca1cc, 0x2de92c6f, 0x4a7484aa, 0x5cb0a9dc, 0x76f988da,
  0x983e5152, 0xa831c66d, 0xb00327c8, 0xbf597fc7, 0xc6e00bf3, 0xd5a79147, 0x06ca6351, 0x14292967,
  0x27b70a85, 0x2e1b2138, 0x4d2c6dfc, 0x53380d13, 0x650a7354, 0x766a0abb, 0x81c2c92e, 0x92722c85,
  0xa2bfe8a1, 0xa81a664b, 0xc24b8b70, 0xc76c51a3, 0xd192e819, 0xd6990624, 0xf40e3585, 0x106aa070,
  0x19a4c116, 0x1e376c08, 0x2748774c, 0x34b0bcb5, 0x391c0cb3, 0x4ed8aa4a, 0x5b9cca4f, 0x682e6ff3,
  0x748f82ee, 0x78a5636f, 0x84c87814, 0x8cc70208, 0x90befffa, 0xa4506ceb, 0xbef9a3f7, 0xc67178f2]
def first : List Nat := [0x6a09e667, 0xbb67ae85, 0x3c6ef372, 0xa54ff53a, 0x510e527f, 0x9b05688c, 0x1f83d9ab, 0x5be0cd19]
def word4 (p : List Nat) (i : Nat) : Nat := ((p.getD (4 * i) 0 * 256 + p.getD (4 * i + 1) 0) * 256 + p.getD (4 * i + 2) 0) * 256 + p.getD (4 * i + 3) 0
def w16 (p : List Nat) : List Nat := (List.range 16).map (word4 p)
def nextW (l : List Nat) : Nat := (l.getD (l.length - 16) 0 + sg0 (l.getD (l.length - 15) 0) + l.getD (l.length - 7) 0 + sg1 (l.getD (l.length - 2) 0)) % 4294967296
def sched (p : List Nat) : Nat → List Nat
  | 0 => w16 p
  | n + 1 => sched p n ++ [nextW (sched p n)]
def stepU (r : List Nat) (k w : Nat) : Nat := (r.getD 7 0 + bg1 (r.getD 4 0) + cho (r.getD 4 0) (r.getD 5 0) (r.getD 6 0) + k + w) % 4294967296
def stepV (r : List Nat) : Nat := (bg0 (r.getD 0 0) + maj (r.getD 0 0) (r.getD 1 0) (r.getD 2 0)) % 4294967296
def stepR (r : List Nat) (k w : Nat) : List Nat := [(stepU r k w + stepV r) % 4294967296, r.getD 0 0, r.getD 1 0, r.getD 2 0, (r.getD 3 0 + stepU r k w) % 4294967296, r.getD 4 0, r.getD 5 0, r.getD 6 0]
def regs (r ws : List Nat) : Nat → List Nat
  | 0 => r
  | t + 1 => stepR (regs r ws t) (roots.getD t 0) (ws.getD t 0)
def addR (r s : List Nat) : List Nat := (List.range 8).map fun i => (r.getD i 0 + s.getD i 0) % 4294967296
def turn (r p : List Nat) : List Nat := addR r (regs r (sched p 48) 64)
def blocks (r : List Nat) (p : List Nat) : Nat → List Nat
  | 0 => r
  | n + 1 => turn (blocks r p n) ((p.drop (64 * n)).take 64)
def bytesW (w : Nat) : List Nat := [w / 16777216 % 256, w / 65536 % 256, w / 256 % 256, w % 256]
def bytesR (r : List Nat) : List Nat := r.flatMap bytesW
def eight (n : Nat) : List Nat := (List.range 8).map fun i => n / 2 ^ (8 * (7 - i)) % 256
def padded (p : List Nat) (n : Nat) : List Nat := p ++ [128] ++ List.replicate ((119 - p.length % 64) % 64) 0 ++ eight (n * 8)
def sum (p : List Nat) : List Nat := bytesR (blocks first (padded p p.length) ((padded p p.length).length / 64))
def hexd (n : Nat) : Nat := if n < 10 then 48 + n else 87 + n

theorem rotr_lt {x : Nat} (n : Nat) (hx : x < 4294967296) : rotr x n < 4294967296 := by
  unfold rotr
  exact Nat.or_lt_two_pow (n := 32) (Nat.lt_of_le_of_lt (Nat.div_le_self _ _) hx) (Nat.mod_lt _ (by decide))
theorem sg0_lt {x : Nat} (hx : x < 4294967296) : sg0 x < 4294967296 :=
  Nat.xor_lt_two_pow (n := 32) (Nat.xor_lt_two_pow (n := 32) (rotr_lt 7 hx) (rotr_lt 18 hx)) (by omega)
theorem sg1_lt {x : Nat} (hx : x < 4294967296) : sg1 x < 4294967296 :=
  Nat.xor_lt_two_pow (n := 32) (Nat.xor_lt_two_pow (n := 32) (rotr_lt 17 hx) (rotr_lt 19 hx)) (by omega)
theorem bg0_lt {x : Nat} (hx : x < 4294967296) : bg0 x < 4294967296 :=
  Nat.xor_lt_two_pow (n := 32) (Nat.xor_lt_two_pow (n := 32) (rotr_lt 2 hx) (rotr_lt 13 hx)) (rotr_lt 22 hx)
theorem bg1_lt {x : Nat} (hx : x < 4294967296) : bg1 x < 4294967296 :=
  Nat.xor_lt_two_pow (n := 32) (Nat.xor_lt_two_pow (n := 32) (rotr_lt 6 hx) (rotr_lt 11 hx)) (rotr_lt 25 hx)
/-- Every element is below a bound. -/
def All (B : Nat) (l : List Nat) : Prop := ∀ x ∈ l, x < B
theorem All.getD {B : Nat} {l : List Nat} (h : All B l) (hB : 0 < B) (i : Nat) : l.getD i 0 < B := by
  rw [List.getD_eq_getElem?_getD]
  cases e : l[i]? with
  | none => exact hB
  | some x => exact h x (List.mem_of_getElem? e)
theorem All.app {B : Nat} {l m : List Nat} (h : All B l) (k : All B m) : All B (l ++ m) := by
  intro x hx
  rcases List.mem_append.1 hx with h' | h'
  · exact h x h'
  · exact k x h'
theorem All.one {B x : Nat} (h : x < B) : All B [x] := by
  intro y hy
  obtain rfl := List.mem_singleton.1 hy
  exact h
theorem All.nil {B : Nat} : All B [] := fun _ h => by cases h
theorem All.take {B : Nat} {l : List Nat} (h : All B l) (n : Nat) : All B (l.take n) := fun x hx => h x (List.mem_of_mem_take hx)
theorem All.drop {B : Nat} {l : List Nat} (h : All B l) (n : Nat) : All B (l.drop n) := fun x hx => h x (List.mem_of_mem_drop hx)
theorem All.rep {B x : Nat} (h : x < B) (n : Nat) : All B (List.replicate n x) := fun y hy => by rw [List.eq_of_mem_replicate hy]; exact h
theorem word4_lt {p : List Nat} (hp : All 256 p) (i : Nat) : word4 p i < 4294967296 := by
  unfold word4
  have := hp.getD (by decide) (4 * i); have := hp.getD (by decide) (4 * i + 1); have := hp.getD (by decide) (4 * i + 2); have := hp.getD (by decide) (4 * i + 3)
  omega
theorem w16_len (p : List Nat) : (w16 p).length = 16 := by simp [w16]
theorem w16_all {p : List Nat} (hp : All 256 p) : All 4294967296 (w16 p) := by
  intro x hx
  obtain ⟨i, _, rfl⟩ := List.mem_map.1 hx
  exact word4_lt hp i
theorem nextW_lt (l : List Nat) : nextW l < 4294967296 := Nat.mod_lt _ (by decide)
theorem sched_len (p : List Nat) : ∀ n, (sched p n).length = 16 + n
  | 0 => w16_len p
  | n + 1 => by rw [sched, List.length_append, sched_len p n]; rfl
theorem sched_all {p : List Nat} (hp : All 256 p) : ∀ n, All 4294967296 (sched p n)
  | 0 => w16_all hp
  | n + 1 => (sched_all hp n).app (All.one (nextW_lt _))
theorem sched_pre (p : List Nat) (n : Nat) : ∀ d, sched p n = (sched p (n + d)).take (16 + n)
  | 0 => by rw [Nat.add_zero, List.take_of_length_le (by rw [sched_len]; omega)]
  | d + 1 => by
    rw [← Nat.add_assoc, sched, List.take_append_of_le_length (by rw [sched_len]; omega)]
    exact sched_pre p n d
/-- The 64 words of a block. -/
def S64 (p : List Nat) : List Nat := sched p 48
theorem S64_len (p : List Nat) : (S64 p).length = 64 := sched_len p 48
theorem S64_all {p : List Nat} (hp : All 256 p) : All 4294967296 (S64 p) := sched_all hp 48
theorem getD_take (l : List Nat) (n i : Nat) (h : i < n) : (l.take n).getD i 0 = l.getD i 0 := by
  rw [List.getD_eq_getElem?_getD, List.getElem?_take, if_pos h, ← List.getD_eq_getElem?_getD]
theorem S64_low (p : List Nat) (t : Nat) (h : t < 16) : (S64 p).getD t 0 = word4 p t := by
  rw [← getD_take _ 16 t h]
  have e := sched_pre p 0 48
  rw [Nat.zero_add, Nat.add_zero] at e
  show ((sched p 48).take 16).getD t 0 = _
  rw [← e]
  simp [sched, w16, List.getD_eq_getElem?_getD, h]
theorem S64_high (p : List Nat) (t : Nat) (h0 : 16 ≤ t) (h : t < 64) : (S64 p).getD t 0 = ((S64 p).getD (t - 16) 0 + sg0 ((S64 p).getD (t - 15) 0) + (S64 p).getD (t - 7) 0 + sg1 ((S64 p).getD (t - 2) 0)) % 4294967296 := by
  have e1 := sched_pre p (t - 16) (48 - (t - 16))
  have e2 := sched_pre p (t - 16 + 1) (48 - (t - 16 + 1))
  rw [show t - 16 + (48 - (t - 16)) = 48 by omega, show 16 + (t - 16) = t by omega] at e1
  rw [show t - 16 + 1 + (48 - (t - 16 + 1)) = 48 by omega, show 16 + (t - 16 + 1) = t + 1 by omega] at e2
  have hl : (sched p (t - 16)).length = t := by rw [sched_len]; omega
  have h1 : (sched p (t - 16 + 1)).getD t 0 = nextW (sched p (t - 16)) := by
    rw [sched, List.getD_eq_getElem?_getD, List.getElem?_append_right (by omega), hl, Nat.sub_self]
    rfl
  rw [e2, getD_take _ _ _ (by omega)] at h1
  unfold S64
  rw [h1]
  unfold nextW
  rw [hl, e1, getD_take _ _ _ (by omega), getD_take _ _ _ (by omega), getD_take _ _ _ (by omega), getD_take _ _ _ (by omega)]
theorem stepR_len (r : List Nat) (k w : Nat) : (stepR r k w).length = 8 := rfl
theorem stepR_all {r : List Nat} (hr : All 4294967296 r) (k w : Nat) : All 4294967296 (stepR r k w) := by
  intro x hx
  simp only [stepR, List.mem_cons, List.not_mem_nil, or_false] at hx
  rcases hx with h | h | h | h | h | h | h | h <;> rw [h] <;> first | exact Nat.mod_lt _ (by decide) | exact hr.getD (by decide) _
theorem regs_all {r ws : List Nat} (hr : All 4294967296 r) : ∀ t, All 4294967296 (regs r ws t)
  | 0 => hr
  | t + 1 => stepR_all (regs_all hr t) _ _
theorem regs_len {r ws : List Nat} (hr : r.length = 8) : ∀ t, (regs r ws t).length = 8
  | 0 => hr
  | _ + 1 => rfl
theorem addR_len (r s : List Nat) : (addR r s).length = 8 := by simp [addR]
theorem addR_all (r s : List Nat) : All 4294967296 (addR r s) := by
  intro x hx
  obtain ⟨i, _, rfl⟩ := List.mem_map.1 hx
  exact Nat.mod_lt _ (by decide)
theorem turn_len (r p : List Nat) : (turn r p).length = 8 := addR_len _ _
theorem turn_all (r p : List Nat) : All 4294967296 (turn r p) := addR_all _ _
theorem blocks_len {r : List Nat} (hr : r.length = 8) (p : List Nat) : ∀ n, (blocks r p n).length = 8
  | 0 => hr
  | n + 1 => turn_len _ _
theorem blocks_all {r : List Nat} (hr : All 4294967296 r) (p : List Nat) : ∀ n, All 4294967296 (blocks r p n)
  | 0 => hr
  | n + 1 => turn_all _ _
end Go.Proofs.YtfedlgcpgfofjaaDoor.Sha
