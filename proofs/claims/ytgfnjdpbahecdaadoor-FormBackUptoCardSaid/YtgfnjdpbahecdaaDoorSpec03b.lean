/-
  Unescape on lists of bytes: plain Lean.
-/
import Derived.Test.YtgfnjdpbahecdaaDoorSpec03
namespace Go.Proofs.YtgfnjdpbahecdaaDoor.Spec
/-- A hex digit's number, or -1. -/
def hexI (c : UInt8) : Int := if 48 ≤ (c.toNat : Int) ∧ (c.toNat : Int) ≤ 57 then (c.toNat : Int) - 48 else if 97 ≤ (c.toNat : Int) ∧ (c.toNat : Int) ≤ 102 then (c.toNat : Int) - 97 + 10 else if 65 ≤ (c.toNat : Int) ∧ (c.toNat : Int) ≤ 70 then (c.toNat : Int) - 65 + 10 else -1
theorem hexI_range (c : UInt8) : -1 ≤ hexI c ∧ hexI c ≤ 15 := by
  unfold hexI
  split
  · omega
  · split
    · omega
    · split <;> omega
/-- What a text comes to, from a place on; what has been read stands in acc: the bytes, the error, its place. -/
def unescL : List UInt8 → Nat → List UInt8 → List UInt8 × Int × Int
  | [], _, acc => (acc, 0, 0)
  | [c], i, acc => if (c.toNat : Int) < 33 ∨ 126 < (c.toNat : Int) then ([], 31, i) else if c = 43 then (acc ++ [32], 0, 0) else if c = 37 then ([], 30, i) else (acc ++ [c], 0, 0)
  | [c, d], i, acc => if (c.toNat : Int) < 33 ∨ 126 < (c.toNat : Int) then ([], 31, i) else if c = 43 then unescL [d] (i + 1) (acc ++ [32]) else if c = 37 then ([], 30, i) else unescL [d] (i + 1) (acc ++ [c])
  | c :: d :: e :: r, i, acc => if (c.toNat : Int) < 33 ∨ 126 < (c.toNat : Int) then ([], 31, i) else if c = 43 then unescL (d :: e :: r) (i + 1) (acc ++ [32])
    else if c = 37 then (if hexI d < 0 ∨ hexI e < 0 then ([], 30, i) else unescL r (i + 3) (acc ++ [UInt8.ofNat (16 * hexI d + hexI e).toNat])) else unescL (d :: e :: r) (i + 1) (acc ++ [c])
theorem unescL_bad (c : UInt8) (r : List UInt8) (i : Nat) (acc : List UInt8) (h : (c.toNat : Int) < 33 ∨ 126 < (c.toNat : Int)) : unescL (c :: r) i acc = ([], 31, (i : Int)) := by
  match r with
  | [] => simp [unescL, h]
  | [d] => simp [unescL, h]
  | d :: e :: r => simp [unescL, h]
theorem unescL_plus (c : UInt8) (r : List UInt8) (i : Nat) (acc : List UInt8) (hc : c = 43) : unescL (c :: r) i acc = unescL r (i + 1) (acc ++ [32]) := by
  subst hc
  match r with
  | [] => simp [unescL]
  | [d] => simp [unescL]
  | d :: e :: r => simp [unescL]
theorem unescL_keep (c : UInt8) (r : List UInt8) (i : Nat) (acc : List UInt8) (h : ¬ ((c.toNat : Int) < 33 ∨ 126 < (c.toNat : Int))) (h1 : c ≠ 43) (h2 : c ≠ 37) : unescL (c :: r) i acc = unescL r (i + 1) (acc ++ [c]) := by
  match r with
  | [] => simp [unescL, h, h1, h2]
  | [d] => simp [unescL, h, h1, h2]
  | d :: e :: r => simp [unescL, h, h1, h2]
theorem unescL_short (c : UInt8) (r : List UInt8) (i : Nat) (acc : List UInt8) (hc : c = 37) (hr : r.length < 2) : unescL (c :: r) i acc = ([], 30, (i : Int)) := by
  subst hc
  match r, hr with
  | [], _ => simp [unescL]
  | [d], _ => simp [unescL]
theorem unescL_nohex (c d e : UInt8) (r : List UInt8) (i : Nat) (acc : List UInt8) (hc : c = 37) (h : hexI d < 0 ∨ hexI e < 0) : unescL (c :: d :: e :: r) i acc = ([], 30, (i : Int)) := by
  subst hc
  simp [unescL, h]
theorem unescL_hex (c d e : UInt8) (r : List UInt8) (i : Nat) (acc : List UInt8) (hc : c = 37) (h : ¬ (hexI d < 0 ∨ hexI e < 0)) : unescL (c :: d :: e :: r) i acc = unescL r (i + 3) (acc ++ [UInt8.ofNat (16 * hexI d + hexI e).toNat]) := by
  subst hc
  simp [unescL, h]
theorem drop_at (s : ByteArray) (k : Nat) (h : k < s.size) : s.data.toList.drop k = s[k] :: s.data.toList.drop (k + 1) := by
  rw [List.drop_eq_getElem_cons (by simpa using h)]
  rfl
end Go.Proofs.YtgfnjdpbahecdaaDoor.Spec
