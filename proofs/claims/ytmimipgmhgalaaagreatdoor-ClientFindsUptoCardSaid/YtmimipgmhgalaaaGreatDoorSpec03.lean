/-
  What the forms' functions compute, on lists of bytes: plain Lean, no program in sight.
  Unescape on lists of bytes: plain Lean.
-/
import Derived.Laws.Strings
import Derived.Lib.Builder
import Derived.Lib.AppendStr
namespace Go.Proofs.YtmimipgmhgalaaaGreatDoor.Spec
def alnumB (c : UInt8) : Bool := (65 ≤ c && c ≤ 90) || (97 ≤ c && c ≤ 122) || (48 ≤ c && c ≤ 57)
def punctB (c : UInt8) : Bool := c == 45 || c == 46 || c == 95 || c == 42
def plainB (c : UInt8) : Bool := punctB c || alnumB c
def hexD (n : Nat) : UInt8 := if n < 10 then UInt8.ofNat (48 + n) else UInt8.ofNat (55 + n)
/-- A byte as it stands in a form. -/
def escB (c : UInt8) : List UInt8 := if c = 32 then [43] else if plainB c then [c] else [37, hexD (c.toNat / 16), hexD (c.toNat % 16)]
def escL (l : List UInt8) : List UInt8 := l.flatMap escB
theorem u8_int (c : UInt8) (n : Nat) (hn : n < 256) : ((c.toNat : Int) == (n : Int)) = (c == UInt8.ofNat n) := by
  rw [Bool.eq_iff_iff, beq_iff_eq, beq_iff_eq]
  constructor
  · intro h
    have h2 : c.toNat = n := by omega
    rw [← h2, UInt8.ofNat_toNat]
  · intro h
    subst h
    simp [UInt8.toNat_ofNat', Nat.mod_eq_of_lt hn]
theorem alnum_int (c : UInt8) : alnumB c = decide ((65 ≤ (c.toNat : Int) ∧ (c.toNat : Int) ≤ 90) ∨ (97 ≤ (c.toNat : Int) ∧ (c.toNat : Int) ≤ 122) ∨ (48 ≤ (c.toNat : Int) ∧ (c.toNat : Int) ≤ 57)) := by
  rw [Bool.eq_iff_iff]
  simp [alnumB, UInt8.le_iff_toNat_le]
  omega
theorem escB_space (c : UInt8) (h : ((c.toNat : Int) == 32) = true) : escB c = [43] := by
  have h2 := u8_int c 32 (by omega)
  rw [show ((32 : Nat) : Int) = 32 from rfl, h] at h2
  have h3 : c = 32 := by simpa using h2.symm
  simp [escB, h3]
theorem not_space (c : UInt8) (h : ((c.toNat : Int) == 32) = false) : c ≠ 32 := by
  rintro rfl
  simp at h
theorem escB_keep (c : UInt8) (h : ((c.toNat : Int) == 32) = false) (hp : plainB c = true) : escB c = [c] := by
  simp [escB, not_space c h, hp]
theorem escB_pct (c : UInt8) (h : ((c.toNat : Int) == 32) = false) (hp : plainB c = false) : escB c = [37, hexD (c.toNat / 16), hexD (c.toNat % 16)] := by
  simp [escB, not_space c h, hp]
theorem punct_int (c : UInt8) : punctB c = (((c.toNat : Int) == 45) || ((c.toNat : Int) == 46) || ((c.toNat : Int) == 95) || ((c.toNat : Int) == 42)) := by
  have h1 := u8_int c 45 (by omega)
  have h2 := u8_int c 46 (by omega)
  have h3 := u8_int c 95 (by omega)
  have h4 := u8_int c 42 (by omega)
  simp only [Int.cast_ofNat_Int] at h1 h2 h3 h4
  rw [h1, h2, h3, h4]
  rfl
theorem escL_snoc (l : List UInt8) (c : UInt8) : escL (l ++ [c]) = escL l ++ escB c := by simp [escL]
theorem escB_len (c : UInt8) : 1 ≤ (escB c).length ∧ (escB c).length ≤ 3 := by
  unfold escB
  split
  · simp
  · split <;> simp
theorem escL_len : ∀ l : List UInt8, (escL l).length ≤ 3 * l.length
  | [] => by simp [escL]
  | c :: l => by
    have h1 := escL_len l
    have h2 := (escB_len c).2
    simp only [escL, List.flatMap_cons, List.length_append, List.length_cons] at h1 ⊢
    omega
theorem escL_take (s : ByteArray) (k : Nat) (h : k < s.size) : escL (s.data.toList.take (k + 1)) = escL (s.data.toList.take k) ++ escB s[k] := by
  rw [List.take_succ_eq_append_getElem (by simpa using h), escL_snoc]
  rfl
theorem hexD_at (n : Nat) (h : n < ({ data := #[48, 49, 50, 51, 52, 53, 54, 55, 56, 57, 65, 66, 67, 68, 69, 70] } : ByteArray).size) : ({ data := #[48, 49, 50, 51, 52, 53, 54, 55, 56, 57, 65, 66, 67, 68, 69, 70] } : ByteArray)[n] = hexD n := by
  have h' : n < 16 := h
  have : ∀ m : Fin 16, ({ data := #[48, 49, 50, 51, 52, 53, 54, 55, 56, 57, 65, 66, 67, 68, 69, 70] } : ByteArray)[m.val]'(m.isLt) = hexD m.val := by decide
  exact this ⟨n, h'⟩
end Go.Proofs.YtmimipgmhgalaaaGreatDoor.Spec
namespace Go.Proofs.YtmimipgmhgalaaaGreatDoor.Spec
/-- A hex digit's number, or -1. -/
def hexI (c : UInt8) : Int := if 48 ≤ (c.toNat : Int) ∧ (c.toNat : Int) ≤ 57 then (c.toNat : Int) - 48 else if 97 ≤ (c.toNat : Int) ∧ (c.toNat : Int) ≤ 102 then (c.toNat : Int) - 97 + 10 else if 65 ≤ (c.toNat : Int) ∧ (c.toNat : Int) ≤ 70 then (c.toNat : Int) - 65 + 10 else -1
theorem hexI_range (c : UInt8) : -1 ≤ hexI c ∧ hexI c ≤ 15 := by
  unfold hexI
  split
  · omega
  · split
    · omega
    · split <;> omega
/-- What a text comes to, from a place on; what has been read stands in acc: the bytes, the error, its place. -/
def unescL : List UInt8 → Nat → List UInt8 → List UInt8 × Int × Int
  | [], _, acc => (acc, 0, 0)
  | [c], i, acc => if (c.toNat : Int) < 33 ∨ 126 < (c.toNat : Int) then ([], 31, i) else if c = 43 then (acc ++ [32], 0, 0) else if c = 37 then ([], 30, i) else (acc ++ [c], 0, 0)
  | [c, d], i, acc => if (c.toNat : Int) < 33 ∨ 126 < (c.toNat : Int) then ([], 31, i) else if c = 43 then unescL [d] (i + 1) (acc ++ [32]) else if c = 37 then ([], 30, i) else unescL [d] (i + 1) (acc ++ [c])
  | c :: d :: e :: r, i, acc => if (c.toNat : Int) < 33 ∨ 126 < (c.toNat : Int) then ([], 31, i) else if c = 43 then unescL (d :: e :: r) (i + 1) (acc ++ [32])
    else if c = 37 then (if hexI d < 0 ∨ hexI e < 0 then ([], 30, i) else unescL r (i + 3) (acc ++ [UInt8.ofNat (16 * hexI d + hexI e).toNat])) else unescL (d :: e :: r) (i + 1) (acc ++ [c])
theorem unescL_bad (c : UInt8) (r : List UInt8) (i : Nat) (acc : List UInt8) (h : (c.toNat : Int) < 33 ∨ 126 < (c.toNat : Int)) : unescL (c :: r) i acc = ([], 31, (i : Int)) := by
  match r with
  | [] => simp [unescL, h]
  | [d] => simp [unescL, h]
  | d :: e :: r => simp [unescL, h]
theorem unescL_plus (c : UInt8) (r : List UInt8) (i : Nat) (acc : List UInt8) (hc : c = 43) : unescL (c :: r) i acc = unescL r (i + 1) (acc ++ [32]) := by
  subst hc
  match r with
  | [] => simp [unescL]
  | [d] => simp [unescL]
  | d :: e :: r => simp [unescL]
theorem unescL_keep (c : UInt8) (r : List UInt8) (i : Nat) (acc : List UInt8) (h : ¬ ((c.toNat : Int) < 33 ∨ 126 < (c.toNat : Int))) (h1 : c ≠ 43) (h2 : c ≠ 37) : unescL (c :: r) i acc = unescL r (i + 1) (acc ++ [c]) := by
  match r with
  | [] => simp [unescL, h, h1, h2]
  | [d] => simp [unescL, h, h1, h2]
  | d :: e :: r => simp [unescL, h, h1, h2]
theorem unescL_short (c : UInt8) (r : List UInt8) (i : Nat) (acc : List UInt8) (hc : c = 37) (hr : r.length < 2) : unescL (c :: r) i acc = ([], 30, (i : Int)) := by
  subst hc
  match r, hr with
  | [], _ => simp [unescL]
  | [d], _ => simp [unescL]
theorem unescL_nohex (c d e : UInt8) (r : List UInt8) (i : Nat) (acc : List UInt8) (hc : c = 37) (h : hexI d < 0 ∨ hexI e < 0) : unescL (c :: d :: e :: r) i acc = ([], 30, (i : Int)) := by
  subst hc
  simp [unescL, h]
theorem unescL_hex (c d e : UInt8) (r : List UInt8) (i : Nat) (acc : List UInt8) (hc : c = 37) (h : ¬ (hexI d < 0 ∨ hexI e < 0)) : unescL (c :: d :: e :: r) i acc = unescL r (i + 3) (acc ++ [UInt8.ofNat (16 * hexI d + hexI e).toNat]) := by
  subst hc
  simp [unescL, h]
theorem drop_at (s : ByteArray) (k : Nat) (h : k < s.size) : s.data.toList.drop k = s[k] :: s.data.toList.drop (k + 1) := by
  rw [List.drop_eq_getElem_cons (by simpa using h)]
  rfl
end Go.Proofs.YtmimipgmhgalaaaGreatDoor.Spec
