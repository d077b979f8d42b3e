/-
  Texts of bytes: the plain law of six bits and of four bits a letter.
  The program's codes are the plain law's.
  The program's Base64 is the plain law's.
-/
import Derived.Test.YtfedlgcpgfofjaaDoorDBase3
import Derived.Test.YtfedlgcpgfofjaaDoorPAllx3
import Derived.Test.YtfedlgcpgfofjaaDoorPAllx4
import Derived.Test.YtfedlgcpgfofjaaDoorPlain
namespace Go.Proofs.YtfedlgcpgfofjaaDoor.Sha
set_option linter.unusedVariables false
theorem bitOr (a i b : Nat) (hb : b < 2 ^ i) : a * 2 ^ i ||| b = a * 2 ^ i + b := by
  rw [Nat.mul_comm, ← Nat.two_pow_add_eq_or_of_lt hb]
/-- Six bits a number, of bytes. -/
def six : List Nat → List Nat
  | [] => []
  | [a] => [a / 4, a % 4 * 16]
  | [a, b] => [a / 4, a % 4 * 16 + b / 16, b % 16 * 4]
  | a :: b :: c :: r => a / 4 :: (a % 4 * 16 + b / 16) :: (b % 16 * 4 + c / 64) :: c % 64 :: six r
/-- Bytes, of six bits a number; and what is left. -/
def une : List Nat → List Nat × Nat
  | [] => ([], 0)
  | [x] => ([], x)
  | [x, y] => ([x * 4 + y / 16], y % 16)
  | [x, y, z] => ([x * 4 + y / 16, y % 16 * 16 + z / 4], z % 4)
  | x :: y :: z :: t :: r => ((x * 4 + y / 16) :: (y % 16 * 16 + z / 4) :: (z % 4 * 64 + t) :: (une r).1, (une r).2)
def Lt (b : Nat) (l : List Nat) : Prop := ∀ x ∈ l, x < b
theorem Lt.cons {b x : Nat} {l : List Nat} (h : Lt b (x :: l)) : x < b ∧ Lt b l := ⟨h x (by simp), fun y hy => h y (by simp [hy])⟩
theorem Lt.mk {b x : Nat} {l : List Nat} (h : x < b) (t : Lt b l) : Lt b (x :: l) := fun y hy => by
  rcases List.mem_cons.1 hy with rfl | hy
  · exact h
  · exact t y hy
theorem Lt.nil (b : Nat) : Lt b [] := fun x hx => by simp at hx
theorem six_lt : ∀ (p : List Nat), Lt 256 p → Lt 64 (six p)
  | [], _ => Lt.nil _
  | [a], h => by
    have h1 := h.cons.1
    exact Lt.mk (by omega) (Lt.mk (by omega) (Lt.nil _))
  | [a, b], h => by
    have h1 := h.cons.1
    have h2 := h.cons.2.cons.1
    exact Lt.mk (by omega) (Lt.mk (by omega) (Lt.mk (by omega) (Lt.nil _)))
  | a :: b :: c :: r, h => by
    have h1 := h.cons.1
    have h2 := h.cons.2.cons.1
    have h3 := h.cons.2.cons.2.cons.1
    exact Lt.mk (by omega) (Lt.mk (by omega) (Lt.mk (by omega) (Lt.mk (by omega) (six_lt r h.cons.2.cons.2.cons.2))))
theorem une_six : ∀ (p : List Nat), Lt 256 p → une (six p) = (p, 0)
  | [], _ => rfl
  | [a], h => by
    have h1 := h.cons.1
    simp only [six, une, Prod.mk.injEq, List.cons.injEq, and_true]
    omega
  | [a, b], h => by
    have h1 := h.cons.1
    have h2 := h.cons.2.cons.1
    simp only [six, une, Prod.mk.injEq, List.cons.injEq, and_true]
    omega
  | a :: b :: c :: r, h => by
    have h1 := h.cons.1
    have h2 := h.cons.2.cons.1
    have h3 := h.cons.2.cons.2.cons.1
    have ih := une_six r h.cons.2.cons.2.cons.2
    simp only [six, une, ih, Prod.mk.injEq, List.cons.injEq, and_true]
    omega
theorem six_len : ∀ (p : List Nat), (six p).length % 4 ≠ 1
  | [] => by simp [six]
  | [a] => by simp [six]
  | [a, b] => by simp [six]
  | a :: b :: c :: r => by
    have := six_len r
    simp only [six, List.length_cons]
    omega
theorem six_le : ∀ (p : List Nat), (six p).length ≤ 2 * p.length
  | [] => by simp [six]
  | [a] => by simp [six]
  | [a, b] => by simp [six]
  | a :: b :: c :: r => by
    have := six_le r
    simp only [six, List.length_cons]
    omega
theorem six_une : ∀ (v : List Nat), Lt 64 v → v.length % 4 ≠ 1 → (une v).2 = 0 → six (une v).1 = v
  | [], _, _, _ => rfl
  | [x], _, h, _ => absurd rfl h
  | [x, y], h, _, h0 => by
    have h1 := h.cons.1
    have h2 := h.cons.2.cons.1
    simp only [une] at h0
    simp only [six, une, List.cons.injEq, and_true]
    omega
  | [x, y, z], h, _, h0 => by
    have h1 := h.cons.1
    have h2 := h.cons.2.cons.1
    have h3 := h.cons.2.cons.2.cons.1
    simp only [une] at h0
    simp only [six, une, List.cons.injEq, and_true]
    omega
  | x :: y :: z :: t :: r, h, hl, h0 => by
    have h1 := h.cons.1
    have h2 := h.cons.2.cons.1
    have h3 := h.cons.2.cons.2.cons.1
    have h4 := h.cons.2.cons.2.cons.2.cons.1
    simp only [une] at h0
    have ih := six_une r h.cons.2.cons.2.cons.2.cons.2 (by simp only [List.length_cons] at hl; omega) h0
    simp only [six, une, ih, List.cons.injEq, and_true]
    omega
theorem une_lt : ∀ (v : List Nat), Lt 64 v → Lt 256 (une v).1
  | [], _ => Lt.nil _
  | [x], _ => Lt.nil _
  | [x, y], h => by
    have h1 := h.cons.1
    have h2 := h.cons.2.cons.1
    exact Lt.mk (by omega) (Lt.nil _)
  | [x, y, z], h => by
    have h1 := h.cons.1
    have h2 := h.cons.2.cons.1
    have h3 := h.cons.2.cons.2.cons.1
    exact Lt.mk (by omega) (Lt.mk (by omega) (Lt.nil _))
  | x :: y :: z :: t :: r, h => by
    have h1 := h.cons.1
    have h2 := h.cons.2.cons.1
    have h3 := h.cons.2.cons.2.cons.1
    have h4 := h.cons.2.cons.2.cons.2.cons.1
    exact Lt.mk (by omega) (Lt.mk (by omega) (Lt.mk (by omega) (une_lt r h.cons.2.cons.2.cons.2.cons.2)))
theorem une_len : ∀ (v : List Nat), (une v).1.length ≤ v.length
  | [] => by simp [une]
  | [x] => by simp [une]
  | [x, y] => by simp [une]
  | [x, y, z] => by simp [une]
  | x :: y :: z :: t :: r => by
    have := une_len r
    simp only [une, List.length_cons]
    omega
/-- Four bits a number. -/
def four (p : List Nat) : List Nat := p.flatMap fun b => [b / 16, b % 16]
def unf : List Nat → List Nat
  | x :: y :: r => (x * 16 + y) :: unf r
  | _ => []
theorem four_cons (a : Nat) (p : List Nat) : four (a :: p) = a / 16 :: a % 16 :: four p := rfl
theorem four_len (p : List Nat) : (four p).length = 2 * p.length := by
  induction p with
  | nil => rfl
  | cons a p ih => rw [four_cons]; simp only [List.length_cons, ih]; omega
theorem four_lt (p : List Nat) (h : Lt 256 p) : Lt 16 (four p) := by
  induction p with
  | nil => exact Lt.nil _
  | cons a p ih =>
    have h1 := h.cons.1
    exact Lt.mk (by omega) (Lt.mk (by omega) (ih h.cons.2))
theorem unf_four (p : List Nat) : unf (four p) = p := by
  induction p with
  | nil => rfl
  | cons a p ih =>
    rw [four_cons, unf, ih, List.cons.injEq]
    exact ⟨by omega, rfl⟩
theorem four_unf : ∀ (v : List Nat), Lt 16 v → v.length % 2 ≠ 1 → four (unf v) = v
  | [], _, _ => rfl
  | [x], _, h => absurd rfl h
  | x :: y :: r, h, hl => by
    have h1 := h.cons.1
    have h2 := h.cons.2.cons.1
    have ih := four_unf r h.cons.2.cons.2 (by simp only [List.length_cons] at hl; omega)
    rw [unf, four_cons, ih, List.cons.injEq, List.cons.injEq]
    exact ⟨by omega, by omega, rfl⟩
theorem unf_len : ∀ (v : List Nat), (unf v).length ≤ v.length
  | [] => by simp [unf]
  | [x] => by simp [unf]
  | x :: y :: r => by
    have := unf_len r
    simp only [unf, List.length_cons]
    omega
/-- The letters. -/
def al64 : List Nat := [65, 66, 67, 68, 69, 70, 71, 72, 73, 74, 75, 76, 77, 78, 79, 80, 81, 82, 83, 84, 85, 86, 87, 88, 89, 90, 97, 98, 99, 100, 101, 102, 103, 104, 105, 106, 107, 108, 109, 110, 111, 112, 113, 114, 115, 116, 117, 118, 119, 120, 121, 122, 48, 49, 50, 51, 52, 53, 54, 55, 56, 57, 45, 95]
def al16 : List Nat := [48, 49, 50, 51, 52, 53, 54, 55, 56, 57, 97, 98, 99, 100, 101, 102]
/-- The letters of numbers; the numbers of letters; the first that is none. -/
def spell (al v : List Nat) : List Nat := v.map fun n => al.getD n 0
def value (al : List Nat) (c : Nat) : Nat := al.idxOf c
def bad (al : List Nat) : List Nat → Nat → Option Nat
  | [], _ => none
  | c :: r, i => if c ∈ al then bad al r (i + 1) else some i
theorem al64_back : ∀ n, n < 64 → al64.getD n 0 ∈ al64 ∧ value al64 (al64.getD n 0) = n := by decide +kernel
theorem al16_back : ∀ n, n < 16 → al16.getD n 0 ∈ al16 ∧ value al16 (al16.getD n 0) = n := by decide +kernel
theorem value_spell {al : List Nat} {b : Nat} (hal : ∀ n, n < b → al.getD n 0 ∈ al ∧ value al (al.getD n 0) = n) (v : List Nat) (h : Lt b v) : (spell al v).map (value al) = v := by
  unfold spell
  rw [List.map_map]
  conv => rhs; rw [← List.map_id v]
  exact List.map_congr_left fun x hx => (hal x (h x hx)).2
theorem bad_spell {al : List Nat} {b : Nat} (hal : ∀ n, n < b → al.getD n 0 ∈ al ∧ value al (al.getD n 0) = n) : ∀ (v : List Nat) (i : Nat), Lt b v → bad al (spell al v) i = none
  | [], _, _ => rfl
  | x :: v, i, h => by
    have h1 := (hal x h.cons.1).1
    have ih := bad_spell hal v (i + 1) h.cons.2
    show (if al.getD x 0 ∈ al then bad al (spell al v) (i + 1) else some i) = none
    rw [if_pos h1]
    exact ih
theorem good {al : List Nat} : ∀ (s : List Nat) (i : Nat), bad al s i = none → ∀ c ∈ s, c ∈ al
  | [], _, _ => fun c hc => by simp at hc
  | x :: s, i, h => fun c hc => by
    by_cases hx : x ∈ al
    · rw [bad, if_pos hx] at h
      rcases List.mem_cons.1 hc with rfl | hc
      · exact hx
      · exact good s (i + 1) h c hc
    · rw [bad, if_neg hx] at h
      cases h
theorem spell_value {al : List Nat} (s : List Nat) (h : ∀ c ∈ s, c ∈ al) : spell al (s.map (value al)) = s := by
  unfold spell
  rw [List.map_map]
  conv => rhs; rw [← List.map_id s]
  refine List.map_congr_left fun x hx => ?_
  have hl := List.idxOf_lt_length_iff.2 (h x hx)
  show al.getD (al.idxOf x) 0 = x
  rw [List.getD_eq_getElem?_getD, List.getElem?_eq_getElem hl]
  exact List.getElem_idxOf hl
theorem value_lt {al : List Nat} (s : List Nat) (h : ∀ c ∈ s, c ∈ al) : Lt al.length (s.map (value al)) := by
  intro x hx
  obtain ⟨c, hc, rfl⟩ := List.mem_map.1 hx
  exact List.idxOf_lt_length_iff.2 (h c hc)
/-- What a text says: the bytes, the fault, its place. -/
def from64 (s : List Nat) : List Nat × Nat × Nat :=
  if s.length > 65536 then ([], 1, 0) else
  match bad al64 s 0 with
  | some i => ([], 20, i)
  | none => if s.length % 4 = 1 then ([], 3, s.length) else if (une (s.map (value al64))).2 = 0 then ((une (s.map (value al64))).1, 0, 0) else ([], 21, s.length - 1)
def from16 (s : List Nat) : List Nat × Nat × Nat :=
  if s.length > 65536 then ([], 1, 0) else
  match bad al16 s 0 with
  | some i => ([], 20, i)
  | none => if s.length % 2 = 1 then ([], 3, s.length) else (unf (s.map (value al16)), 0, 0)
theorem from64_back (p : List Nat) (h : Lt 256 p) (hl : (six p).length ≤ 65536) : from64 (spell al64 (six p)) = (p, 0, 0) := by
  have h6 := six_lt p h
  have e : (spell al64 (six p)).length = (six p).length := List.length_map _
  unfold from64
  rw [if_neg (by omega), bad_spell al64_back _ 0 h6, value_spell al64_back _ h6, une_six p h, e, if_neg (six_len p)]
  rfl
theorem from16_back (p : List Nat) (h : Lt 256 p) (hl : 2 * p.length ≤ 65536) : from16 (spell al16 (four p)) = (p, 0, 0) := by
  have h6 := four_lt p h
  have e : (spell al16 (four p)).length = 2 * p.length := (List.length_map _).trans (four_len p)
  unfold from16
  rw [if_neg (by omega), bad_spell al16_back _ 0 h6, value_spell al16_back _ h6, unf_four, e]
  simp only []
  rw [if_neg (by omega)]
theorem from64_spelt (s : List Nat) (h : (from64 s).2.1 = 0) : Lt 256 (from64 s).1 ∧ spell al64 (six (from64 s).1) = s := by
  unfold from64 at h ⊢
  by_cases h1 : s.length > 65536
  · rw [if_pos h1] at h; cases h
  rw [if_neg h1] at h ⊢
  cases hb : bad al64 s 0 with
  | some i => rw [hb] at h; cases h
  | none =>
    rw [hb] at h
    simp only [] at h ⊢
    by_cases h2 : s.length % 4 = 1
    · rw [if_pos h2] at h; cases h
    rw [if_neg h2] at h ⊢
    by_cases h3 : (une (s.map (value al64))).2 = 0
    · rw [if_pos h3]
      have hv : Lt 64 (s.map (value al64)) := value_lt s (good s 0 hb)
      refine ⟨une_lt _ hv, ?_⟩
      rw [six_une _ hv (by rw [List.length_map]; exact h2) h3]
      exact spell_value s (good s 0 hb)
    · rw [if_neg h3] at h; cases h
theorem unf_lt : ∀ (v : List Nat), Lt 16 v → Lt 256 (unf v)
  | [], _ => Lt.nil _
  | [x], _ => Lt.nil _
  | x :: y :: r, h => by
    have h1 := h.cons.1
    have h2 := h.cons.2.cons.1
    exact Lt.mk (by omega) (unf_lt r h.cons.2.cons.2)
theorem from16_spelt (s : List Nat) (h : (from16 s).2.1 = 0) : Lt 256 (from16 s).1 ∧ spell al16 (four (from16 s).1) = s := by
  unfold from16 at h ⊢
  by_cases h1 : s.length > 65536
  · rw [if_pos h1] at h; cases h
  rw [if_neg h1] at h ⊢
  cases hb : bad al16 s 0 with
  | some i => rw [hb] at h; cases h
  | none =>
    rw [hb] at h
    simp only [] at h ⊢
    by_cases h2 : s.length % 2 = 1
    · rw [if_pos h2] at h; cases h
    rw [if_neg h2]
    have hv : Lt 16 (s.map (value al16)) := value_lt s (good s 0 hb)
    refine ⟨unf_lt _ hv, ?_⟩
    rw [four_unf _ hv (by rw [List.length_map]; exact h2)]
    exact spell_value s (good s 0 hb)
theorem from64_len (s : List Nat) : (from64 s).1.length ≤ 65536 := by
  unfold from64
  by_cases h1 : s.length > 65536
  · rw [if_pos h1]; simp
  rw [if_neg h1]
  cases hb : bad al64 s 0 with
  | some i => simp
  | none =>
    simp only []
    by_cases h2 : s.length % 4 = 1
    · rw [if_pos h2]; simp
    rw [if_neg h2]
    by_cases h3 : (une (s.map (value al64))).2 = 0
    · rw [if_pos h3]
      have := une_len (s.map (value al64))
      rw [List.length_map] at this
      show (une (s.map (value al64))).1.length ≤ 65536
      omega
    · rw [if_neg h3]; simp
theorem from16_len (s : List Nat) : (from16 s).1.length ≤ 65536 := by
  unfold from16
  by_cases h1 : s.length > 65536
  · rw [if_pos h1]; simp
  rw [if_neg h1]
  cases hb : bad al16 s 0 with
  | some i => simp
  | none =>
    simp only []
    by_cases h2 : s.length % 2 = 1
    · rw [if_pos h2]; simp
    rw [if_neg h2]
    have := unf_len (s.map (value al16))
    rw [List.length_map] at this
    show (unf (s.map (value al16))).length ≤ 65536
    omega
end Go.Proofs.YtfedlgcpgfofjaaDoor.Sha
namespace Go.Proofs.YtfedlgcpgfofjaaDoor.Sha
open Go.RowKit Go.Proofs.YtfedlgcpgfofjaaDoorW.PrintWords Go.Proofs.YtfedlgcpgfofjaaDoor.PAll Go.Proofs.YtfedlgcpgfofjaaDoor.Plain
set_option linter.unusedVariables false
set_option linter.unusedSimpArgs false
theorem i64_small (x : Nat) (h : x < 4611686018427387904) : IntKind.i64.wrap (x : Int) = (x : Int) := IntWalk.i64_in _ (by omega)
theorem u64_small (x : Nat) (h : x < 4611686018427387904) : IntKind.u64.wrap (x : Int) = (x : Int) := by show (x : Int) % 18446744073709551616 = x; omega
theorem ofInt_64 (x : Nat) (h : x < 4611686018427387904) : (BitVec.ofInt 64 (x : Int)).toNat = x := by simp; omega
theorem or_lt (a b : Nat) (ha : a < 4611686018427387904) (hb : b < 4611686018427387904) : a ||| b < 4611686018427387904 := Nat.or_lt_two_pow (n := 62) ha hb
theorem or_i64 (a i b : Nat) (hb : b < 2 ^ i) (hs : a * 2 ^ i + b < 4611686018427387904) : bits .or .i64 ((a * 2 ^ i : Nat) : Int) (b : Int) = ((a * 2 ^ i + b : Nat) : Int) := by
  show IntKind.i64.wrap ((BitVec.ofInt 64 ((a * 2 ^ i : Nat) : Int) ||| BitVec.ofInt 64 (b : Int)).toNat : Int) = _
  rw [BitVec.toNat_or, ofInt_64 _ (by omega), ofInt_64 _ (by omega), bitOr a i b hb, i64_small _ hs]
theorem or_u64 (a i b : Nat) (hb : b < 2 ^ i) (hs : a * 2 ^ i + b < 4611686018427387904) : bits .or .u64 ((a * 2 ^ i : Nat) : Int) (b : Int) = ((a * 2 ^ i + b : Nat) : Int) := by
  show IntKind.u64.wrap ((BitVec.ofInt 64 ((a * 2 ^ i : Nat) : Int) ||| BitVec.ofInt 64 (b : Int)).toNat : Int) = _
  rw [BitVec.toNat_or, ofInt_64 _ (by omega), ofInt_64 _ (by omega), bitOr a i b hb, u64_small _ hs]
theorem and_i64 (m j : Nat) (hm : m < 4611686018427387904) (hj : 2 ^ j - 1 < 4611686018427387904) : bits .and .i64 (m : Int) ((2 ^ j - 1 : Nat) : Int) = ((m % 2 ^ j : Nat) : Int) := by
  show IntKind.i64.wrap ((BitVec.ofInt 64 (m : Int) &&& BitVec.ofInt 64 ((2 ^ j - 1 : Nat) : Int)).toNat : Int) = _
  rw [BitVec.toNat_and, ofInt_64 _ hm, ofInt_64 _ hj, Nat.and_two_pow_sub_one_eq_mod, i64_small _ (Nat.lt_of_le_of_lt (Nat.mod_le _ _) hm)]
theorem and_u64 (m j : Nat) (hm : m < 4611686018427387904) (hj : 2 ^ j - 1 < 4611686018427387904) : bits .and .u64 (m : Int) ((2 ^ j - 1 : Nat) : Int) = ((m % 2 ^ j : Nat) : Int) := by
  show IntKind.u64.wrap ((BitVec.ofInt 64 (m : Int) &&& BitVec.ofInt 64 ((2 ^ j - 1 : Nat) : Int)).toNat : Int) = _
  rw [BitVec.toNat_and, ofInt_64 _ hm, ofInt_64 _ hj, Nat.and_two_pow_sub_one_eq_mod, u64_small _ (Nat.lt_of_le_of_lt (Nat.mod_le _ _) hm)]
theorem and63 (m : Nat) (hm : m < 4611686018427387904) : bits .and .u64 (m : Int) 63 = ((m % 64 : Nat) : Int) := and_u64 m 6 hm (by decide)
theorem and15 (m : Nat) (hm : m < 256) : bits .and .u8 (m : Int) 15 = ((m % 16 : Nat) : Int) := by
  show IntKind.u8.wrap ((BitVec.ofInt 8 (m : Int) &&& BitVec.ofInt 8 ((2 ^ 4 - 1 : Nat) : Int)).toNat : Int) = _
  have e1 : ∀ x : Nat, x < 256 → (BitVec.ofInt 8 (x : Int)).toNat = x := fun x h => by simp; omega
  rw [BitVec.toNat_and, e1 m hm, e1 _ (by decide), Nat.and_two_pow_sub_one_eq_mod]
  show ((_ : Int) % 256) = _
  omega
/-- A text's bytes. -/
def sN (s : ByteArray) : List Nat := s.data.toList.map UInt8.toNat
theorem sN_len (s : ByteArray) : (sN s).length = s.size := by simp [sN]
theorem sN_all (s : ByteArray) : Lt 256 (sN s) := fun x hx => by
  obtain ⟨c, _, rfl⟩ := List.mem_map.1 hx
  exact c.toNat_lt
theorem bt_sN (s : ByteArray) (i : Nat) (h : i < s.size) : bt s (i : Int) = (((sN s).getD i 0 : Nat) : Int) := by
  have h' : i < (sN s).length := by rw [sN_len]; exact h
  rw [List.getD_eq_getElem?_getD, List.getElem?_eq_getElem h']
  unfold bt
  rw [dif_pos (by simpa using h)]
  simp [sN]
  rfl
theorem rd_toI (p : List Nat) (i : Nat) : rd (toI p) (i : Int) = ((p.getD i 0 : Nat) : Int) := by unfold rd; rw [Int.toNat_natCast, toI_getD]
theorem drop_at {d : List Nat} {p : List Nat} {i x : Nat} (h : p.drop i = x :: d) : i < p.length ∧ p.getD i 0 = x ∧ p.drop (i + 1) = d := by
  have hl : i < p.length := by
    rcases Nat.lt_or_ge i p.length with h1 | h1
    · exact h1
    · rw [List.drop_eq_nil_of_le h1] at h; cases h
  rw [List.drop_eq_getElem_cons hl] at h
  injection h with h1 h2
  exact ⟨hl, by rw [List.getD_eq_getElem?_getD, List.getElem?_eq_getElem hl]; exact h1, h2⟩
theorem drop_none {p : List Nat} {i : Nat} (h : p.drop i = []) : p.length ≤ i := by
  rcases Nat.lt_or_ge i p.length with h1 | h1
  · rw [List.drop_eq_getElem_cons h1] at h; cases h
  · exact h1
/-- The number of a letter, or less than none. -/
def vat (al : List Nat) (c i : Nat) : Int := if c ∈ al then ((i + value al c : Nat) : Int) else -1
theorem vat_cons (al : List Nat) (x c i : Nat) : vat (x :: al) c i = if x = c then (i : Int) else vat al c (i + 1) := by
  unfold vat value
  by_cases h : x = c
  · subst h
    simp
  · have h' : ¬ (c = x) := fun e => h e.symm
    rw [if_neg h]
    simp only [List.mem_cons, h', false_or]
    by_cases hm : c ∈ al
    · rw [if_pos hm, if_pos hm, List.idxOf_cons]
      have : (x == c) = false := by simpa using h
      rw [this]
      simp
      omega
    · rw [if_neg hm, if_neg hm]
theorem place_ev (A : ByteArray) (c : Nat) (hs : A.size ≤ 1000) : ∀ (d : List Nat) (i : Nat), (sN A).drop i = d → Ev (fun k => digest_place.l0 k A (c : Int) (A.size : Int) (i : Int)) (vat d c i)
  | [], i, hd => by
    have h := drop_none hd
    rw [sN_len] at h
    refine Ev.step (f := fun _ => some (-1)) (fun k => ?_) (Ev.eq (Ev.now _) (by simp [vat]))
    simp only [digest_place.l0]
    rw [if_neg (by omega)]
  | x :: d, i, hd => by
    obtain ⟨h1, h2, h3⟩ := drop_at hd
    rw [sN_len] at h1
    have hx := bt_sN A i h1
    rw [h2] at hx
    rw [vat_cons]
    by_cases hc : x = c
    · refine Ev.step (f := fun _ => some (i : Int)) (fun k => ?_) (Ev.eq (Ev.now _) (by rw [if_pos hc]))
      simp only [digest_place.l0]
      rw [if_pos (by omega), if_pos (by omega), if_pos (by omega), if_pos (by rw [hx, hc])]
    · refine Ev.eq (Ev.step (fun k => ?_) (place_ev A c hs d (i + 1) h3)) (by rw [if_neg hc])
      simp only [digest_place.l0]
      rw [if_pos (by omega), if_pos (by omega), if_pos (by omega), if_neg (by rw [hx]; omega), w64 (by omega) (by omega)]
      rfl
theorem values_ev (A s : ByteArray) (hA : A.size ≤ 1000) (hs : s.size ≤ 65536) : ∀ (d : List Nat) (i : Nat) (out : List Nat), (sN s).drop i = d → out.length ≤ i →
    Ev (fun k => digest_values.l0 k A s (toI out) (s.size : Int) (i : Int)) (match bad (sN A) d i with | some j => (([] : List Int), 20, (j : Int)) | none => (toI (out ++ d.map (value (sN A))), 0, 0))
  | [], i, out, hd, ho => by
    have h := drop_none hd
    rw [sN_len] at h
    refine Ev.step (f := fun _ => some (toI out, 0, 0)) (fun k => ?_) (Ev.eq (Ev.now _) (by simp [bad]))
    simp only [digest_values.l0]
    rw [if_neg (by omega)]
  | x :: d, i, out, hd, ho => by
    obtain ⟨h1, h2, h3⟩ := drop_at hd
    rw [sN_len] at h1
    have hx := bt_sN s i h1
    rw [h2] at hx
    have hp := place_ev A x hA (sN A) 0 (by simp)
    by_cases hc : x ∈ sN A
    · have hv : vat (sN A) x 0 = ((value (sN A) x : Nat) : Int) := by unfold vat; rw [if_pos hc, Nat.zero_add]
      rw [hv] at hp
      rw [bad, if_pos hc]
      refine Ev.step (f := fun k => (digest_place.f k A (bt s (i : Int))).bind fun t110 => (if t110 < 0 then (some (([] : List Int), 20, (i : Int))) else (if (toI out).length < 17592186044416 then (digest_values.l0 k A s (toI out ++ [t110]) (s.size : Int) (wrap64 ((i : Int) + 1))) else (none)))) (fun k => ?_) (Ev.bind (a := ((value (sN A) x : Nat) : Int)) (by rw [hx]; exact hp) (Ev.neg (by omega) (Ev.pos (by rw [toI_len]; omega) ?_)))
      · simp only [digest_values.l0]
        rw [if_pos (by omega), if_pos (by omega), if_pos (by omega)]
      · have ih := values_ev A s hA hs d (i + 1) (out ++ [value (sN A) x]) h3 (by simp; omega)
        rw [w64 (by omega) (by omega)]
        have e : toI (out ++ [value (sN A) x]) = toI out ++ [((value (sN A) x : Nat) : Int)] := by simp [toI]
        rw [e] at ih
        refine Ev.eq ih ?_
        rw [List.append_assoc]
        rfl
    · have hv : vat (sN A) x 0 = -1 := by unfold vat; rw [if_neg hc]
      rw [hv] at hp
      rw [bad, if_neg hc]
      refine Ev.step (f := fun k => (digest_place.f k A (bt s (i : Int))).bind fun t110 => (if t110 < 0 then (some (([] : List Int), 20, (i : Int))) else (if (toI out).length < 17592186044416 then (digest_values.l0 k A s (toI out ++ [t110]) (s.size : Int) (wrap64 ((i : Int) + 1))) else (none)))) (fun k => ?_) (Ev.bind (a := (-1 : Int)) (by rw [hx]; exact hp) (Ev.pos (by omega) (Ev.now _)))
      simp only [digest_values.l0]
      rw [if_pos (by omega), if_pos (by omega), if_pos (by omega)]
abbrev A64 : ByteArray := ⟨#[65, 66, 67, 68, 69, 70, 71, 72, 73, 74, 75, 76, 77, 78, 79, 80, 81, 82, 83, 84, 85, 86, 87, 88, 89, 90, 97, 98, 99, 100, 101, 102, 103, 104, 105, 106, 107, 108, 109, 110, 111, 112, 113, 114, 115, 116, 117, 118, 119, 120, 121, 122, 48, 49, 50, 51, 52, 53, 54, 55, 56, 57, 45, 95]⟩
abbrev A16 : ByteArray := ⟨#[48, 49, 50, 51, 52, 53, 54, 55, 56, 57, 97, 98, 99, 100, 101, 102]⟩
theorem sN64 : sN A64 = al64 := by kernel_rfl
theorem sN16 : sN A16 = al16 := by kernel_rfl
theorem bt64 (n : Nat) (h : n < 64) : bt A64 (n : Int) = ((al64.getD n 0 : Nat) : Int) := by rw [bt_sN A64 n h, sN64]
theorem bt16 (n : Nat) (h : n < 16) : bt A16 (n : Int) = ((al16.getD n 0 : Nat) : Int) := by rw [bt_sN A16 n h, sN16]
theorem vals_ev (A s : ByteArray) (hA : A.size ≤ 1000) : Ev (fun k => digest_values.f k A s) (if s.size > 65536 then (([] : List Int), 1, 0) else match bad (sN A) (sN s) 0 with | some j => (([] : List Int), 20, (j : Int)) | none => (toI ((sN s).map (value (sN A))), 0, 0)) := by
  unfold digest_values.f
  by_cases h : s.size > 65536
  · exact Ev.pos (by omega) (Ev.eq (Ev.now _) (by rw [if_pos h]))
  · refine Ev.neg (by omega) (Ev.eq (values_ev A s hA (by omega) (sN s) 0 [] (by simp) (by simp)) ?_)
    rw [if_neg h, List.nil_append]
theorem toI_push (out : List Nat) (x : Nat) : toI out ++ [(x : Int)] = toI (out ++ [x]) := by simp [toI]
/-- What FromBase64's loop answers behind the values. -/
def fin64 (n : Nat) (out : List Nat) (u : List Nat × Nat) : List Int × Int × Int := if u.2 = 0 then (toI (out ++ u.1), 0, 0) else (([] : List Int), 21, (n : Int) - 1)
theorem step_in (V : List Nat) (i : Nat) (h : i < V.length) (hl : V.length ≤ 65536) : (i : Int) < (V.length : Int) ∧ (0 : Int) ≤ (i : Int) ∧ (i : Int) < ((toI V).length : Int) ∧ wrap64 ((i : Int) + 1) = ((i + 1 : Nat) : Int) := by
  rw [toI_len]
  exact ⟨by omega, by omega, by omega, by rw [w64 (by omega) (by omega)]; rfl⟩
theorem put6 (n x : Nat) (hn : n < 1000) (hx : x < 64) : bits .or .i64 (wrap64 ((n : Int) * 64)) (x : Int) = ((n * 64 + x : Nat) : Int) := by
  rw [w64 (by omega) (by omega)]
  exact or_i64 n 6 x hx (by omega)
theorem q6 : wrap64 (0 + 6) = 6 := (w64 (by decide) (by decide)).trans rfl
theorem q12 : wrap64 (6 + 6) = 12 := (w64 (by decide) (by decide)).trans rfl
theorem q4 : wrap64 (12 - 8) = 4 := (w64 (by decide) (by decide)).trans rfl
theorem q10 : wrap64 (4 + 6) = 10 := (w64 (by decide) (by decide)).trans rfl
theorem q2 : wrap64 (10 - 8) = 2 := (w64 (by decide) (by decide)).trans rfl
theorem q8 : wrap64 (2 + 6) = 8 := (w64 (by decide) (by decide)).trans rfl
theorem q0 : wrap64 (8 - 8) = 0 := (w64 (by decide) (by decide)).trans rfl
theorem m4 : wrap64 (shl .i64 1 4 - 1) = 15 := by kernel_rfl
theorem m2 : wrap64 (shl .i64 1 2 - 1) = 3 := by kernel_rfl
theorem m0 : wrap64 (shl .i64 1 0 - 1) = 0 := by kernel_rfl
theorem shr_nat (X : Int) (j : Nat) (h : j ≤ 64) : shr .i64 X (j : Int) = X / 2 ^ j := by
  unfold shr
  rw [Int.toNat_natCast, Nat.min_eq_left (show j ≤ IntKind.i64.bits from h)]
theorem s0 (s : ByteArray) (out V : List Nat) (i x : Nat) (hi : i < V.length) (hx : V.getD i 0 = x) (hxl : x < 64) (hl : V.length ≤ 65536) (k : Nat) :
    digest_FromBase64.l0 (k + 1) s (toI out) 0 0 (toI V) (V.length : Int) (i : Int) = digest_FromBase64.l0 k s (toI out) (x : Int) 6 (toI V) (V.length : Int) ((i + 1 : Nat) : Int) := by
  obtain ⟨h1, h2, h3, h4⟩ := step_in V i hi hl
  have hp := put6 0 x (by omega) hxl
  rw [Nat.zero_mul, Nat.zero_add] at hp
  simp only [digest_FromBase64.l0, q6]
  rw [if_pos h1, if_pos h2, if_pos h3, if_neg (by decide), rd_toI, hx, h4]
  exact congrArg (fun z => digest_FromBase64.l0 k s (toI out) z 6 (toI V) (V.length : Int) ((i + 1 : Nat) : Int)) hp
theorem s6 (s : ByteArray) (out V : List Nat) (i n x : Nat) (hi : i < V.length) (hx : V.getD i 0 = x) (hn : n < 64) (hxl : x < 64) (hl : V.length ≤ 65536) (ho : out.length < 140737488355328) (k : Nat) :
    digest_FromBase64.l0 (k + 1) s (toI out) (n : Int) 6 (toI V) (V.length : Int) (i : Int) = digest_FromBase64.l0 k s (toI (out ++ [n * 4 + x / 16])) ((x % 16 : Nat) : Int) 4 (toI V) (V.length : Int) ((i + 1 : Nat) : Int) := by
  obtain ⟨h1, h2, h3, h4⟩ := step_in V i hi hl
  have hp := put6 n x (by omega) hxl
  have hs : shr .i64 ((n * 64 + x : Nat) : Int) 4 % 256 = ((n * 4 + x / 16 : Nat) : Int) := by
    have := shr_nat ((n * 64 + x : Nat) : Int) 4 (by decide)
    rw [show ((4 : Nat) : Int) = 4 from rfl] at this
    rw [this]
    omega
  have ha : bits .and .i64 ((n * 64 + x : Nat) : Int) 15 = ((x % 16 : Nat) : Int) := by
    have := and_i64 (n * 64 + x) 4 (by omega) (by decide)
    rw [show (n * 64 + x) % 2 ^ 4 = x % 16 by omega] at this
    exact this
  simp only [digest_FromBase64.l0, q12, q4, m4]
  rw [if_pos h1, if_pos h2, if_pos h3, if_pos (by decide), if_pos (by decide), if_pos (by rw [toI_len]; omega), rd_toI, hx, h4, hp, hs, ha, toI_push]
theorem s4 (s : ByteArray) (out V : List Nat) (i n x : Nat) (hi : i < V.length) (hx : V.getD i 0 = x) (hn : n < 16) (hxl : x < 64) (hl : V.length ≤ 65536) (ho : out.length < 140737488355328) (k : Nat) :
    digest_FromBase64.l0 (k + 1) s (toI out) (n : Int) 4 (toI V) (V.length : Int) (i : Int) = digest_FromBase64.l0 k s (toI (out ++ [n * 16 + x / 4])) ((x % 4 : Nat) : Int) 2 (toI V) (V.length : Int) ((i + 1 : Nat) : Int) := by
  obtain ⟨h1, h2, h3, h4⟩ := step_in V i hi hl
  have hp := put6 n x (by omega) hxl
  have hs : shr .i64 ((n * 64 + x : Nat) : Int) 2 % 256 = ((n * 16 + x / 4 : Nat) : Int) := by
    have := shr_nat ((n * 64 + x : Nat) : Int) 2 (by decide)
    rw [show ((2 : Nat) : Int) = 2 from rfl] at this
    rw [this]
    omega
  have ha : bits .and .i64 ((n * 64 + x : Nat) : Int) 3 = ((x % 4 : Nat) : Int) := by
    have := and_i64 (n * 64 + x) 2 (by omega) (by decide)
    rw [show (n * 64 + x) % 2 ^ 2 = x % 4 by omega] at this
    exact this
  simp only [digest_FromBase64.l0, q10, q2, m2]
  rw [if_pos h1, if_pos h2, if_pos h3, if_pos (by decide), if_pos (by decide), if_pos (by rw [toI_len]; omega), rd_toI, hx, h4, hp, hs, ha, toI_push]
theorem s2 (s : ByteArray) (out V : List Nat) (i n x : Nat) (hi : i < V.length) (hx : V.getD i 0 = x) (hn : n < 4) (hxl : x < 64) (hl : V.length ≤ 65536) (ho : out.length < 140737488355328) (k : Nat) :
    digest_FromBase64.l0 (k + 1) s (toI out) (n : Int) 2 (toI V) (V.length : Int) (i : Int) = digest_FromBase64.l0 k s (toI (out ++ [n * 64 + x])) 0 0 (toI V) (V.length : Int) ((i + 1 : Nat) : Int) := by
  obtain ⟨h1, h2, h3, h4⟩ := step_in V i hi hl
  have hp := put6 n x (by omega) hxl
  have hs : shr .i64 ((n * 64 + x : Nat) : Int) 0 % 256 = ((n * 64 + x : Nat) : Int) := by
    have := shr_nat ((n * 64 + x : Nat) : Int) 0 (by decide)
    rw [show ((0 : Nat) : Int) = 0 from rfl] at this
    rw [this]
    omega
  have ha : bits .and .i64 ((n * 64 + x : Nat) : Int) 0 = (0 : Int) := by
    have := and_i64 (n * 64 + x) 0 (by omega) (by decide)
    rw [show (n * 64 + x) % 2 ^ 0 = 0 by omega] at this
    exact this
  simp only [digest_FromBase64.l0, q8, q0, m0]
  rw [if_pos h1, if_pos h2, if_pos h3, if_pos (by decide), if_pos (by decide), if_pos (by rw [toI_len]; omega), rd_toI, hx, h4, hp, hs, ha, toI_push]
theorem sEnd (s : ByteArray) (out V : List Nat) (i n : Nat) (h : Int) (hi : V.length ≤ i) (hs : s.size ≤ 65536) (k : Nat) :
    digest_FromBase64.l0 (k + 1) s (toI out) (n : Int) h (toI V) (V.length : Int) (i : Int) = some (fin64 s.size out ([], n)) := by
  simp only [digest_FromBase64.l0]
  rw [if_neg (by omega)]
  unfold fin64
  by_cases hn : n = 0
  · rw [if_pos (by omega), if_pos hn, List.append_nil]
  · rw [if_neg (by omega), if_neg hn, w64 (by omega) (by omega)]
theorem un64_ev (s : ByteArray) (V : List Nat) (hs : s.size ≤ 65536) (hl : V.length ≤ 65536) (hV : Lt 64 V) : ∀ (d : List Nat) (i : Nat) (out : List Nat), V.drop i = d → out.length ≤ i →
    Ev (fun k => digest_FromBase64.l0 k s (toI out) 0 0 (toI V) (V.length : Int) (i : Int)) (fin64 s.size out (une d))
  | [], i, out, hd, ho => Ev.step (f := fun _ => some (fin64 s.size out ([], 0))) (fun k => sEnd s out V i 0 0 (drop_none hd) hs k) (Ev.now _)
  | [x], i, out, hd, ho => by
    obtain ⟨a1, a2, a3⟩ := drop_at hd
    have ax : x < 64 := a2 ▸ hV _ (by rw [List.getD_eq_getElem?_getD, List.getElem?_eq_getElem a1]; exact List.getElem_mem a1)
    exact Ev.step (fun k => s0 s out V i x a1 a2 ax hl k) (Ev.step (f := fun _ => some (fin64 s.size out ([], x))) (fun k => sEnd s out V (i + 1) x 6 (drop_none a3) hs k) (Ev.now _))
  | [x, y], i, out, hd, ho => by
    obtain ⟨a1, a2, a3⟩ := drop_at hd
    obtain ⟨b1, b2, b3⟩ := drop_at a3
    have ax : x < 64 := a2 ▸ hV _ (by rw [List.getD_eq_getElem?_getD, List.getElem?_eq_getElem a1]; exact List.getElem_mem a1)
    have bx : y < 64 := b2 ▸ hV _ (by rw [List.getD_eq_getElem?_getD, List.getElem?_eq_getElem b1]; exact List.getElem_mem b1)
    refine Ev.eq (Ev.step (fun k => s0 s out V i x a1 a2 ax hl k) (Ev.step (fun k => s6 s out V (i + 1) x y b1 b2 ax bx hl (by omega) k) (Ev.step (f := fun _ => some (fin64 s.size (out ++ [x * 4 + y / 16]) ([], y % 16))) (fun k => sEnd s _ V (i + 1 + 1) (y % 16) 4 (drop_none b3) hs k) (Ev.now _)))) ?_
    simp only [fin64, une, List.append_assoc, List.cons_append, List.nil_append, List.append_nil]
    rfl
  | [x, y, z], i, out, hd, ho => by
    obtain ⟨a1, a2, a3⟩ := drop_at hd
    obtain ⟨b1, b2, b3⟩ := drop_at a3
    obtain ⟨c1, c2, c3⟩ := drop_at b3
    have ax : x < 64 := a2 ▸ hV _ (by rw [List.getD_eq_getElem?_getD, List.getElem?_eq_getElem a1]; exact List.getElem_mem a1)
    have bx : y < 64 := b2 ▸ hV _ (by rw [List.getD_eq_getElem?_getD, List.getElem?_eq_getElem b1]; exact List.getElem_mem b1)
    have cx : z < 64 := c2 ▸ hV _ (by rw [List.getD_eq_getElem?_getD, List.getElem?_eq_getElem c1]; exact List.getElem_mem c1)
    refine Ev.eq (Ev.step (fun k => s0 s out V i x a1 a2 ax hl k) (Ev.step (fun k => s6 s out V (i + 1) x y b1 b2 ax bx hl (by omega) k) (Ev.step (fun k => s4 s (out ++ [x * 4 + y / 16]) V (i + 1 + 1) (y % 16) z c1 c2 (by omega) cx hl (by simp; omega) k)
      (Ev.step (f := fun _ => some (fin64 s.size (out ++ [x * 4 + y / 16] ++ [y % 16 * 16 + z / 4]) ([], z % 4))) (fun k => sEnd s _ V (i + 1 + 1 + 1) (z % 4) 2 (drop_none c3) hs k) (Ev.now _))))) ?_
    simp only [fin64, une, List.append_assoc, List.cons_append, List.nil_append, List.append_nil]
    rfl
  | x :: y :: z :: t :: r, i, out, hd, ho => by
    obtain ⟨a1, a2, a3⟩ := drop_at hd
    obtain ⟨b1, b2, b3⟩ := drop_at a3
    obtain ⟨c1, c2, c3⟩ := drop_at b3
    obtain ⟨d1, d2, d3⟩ := drop_at c3
    have ax : x < 64 := a2 ▸ hV _ (by rw [List.getD_eq_getElem?_getD, List.getElem?_eq_getElem a1]; exact List.getElem_mem a1)
    have bx : y < 64 := b2 ▸ hV _ (by rw [List.getD_eq_getElem?_getD, List.getElem?_eq_getElem b1]; exact List.getElem_mem b1)
    have cx : z < 64 := c2 ▸ hV _ (by rw [List.getD_eq_getElem?_getD, List.getElem?_eq_getElem c1]; exact List.getElem_mem c1)
    have dx : t < 64 := d2 ▸ hV _ (by rw [List.getD_eq_getElem?_getD, List.getElem?_eq_getElem d1]; exact List.getElem_mem d1)
    have ih := un64_ev s V hs hl hV r (i + 1 + 1 + 1 + 1) (out ++ [x * 4 + y / 16] ++ [y % 16 * 16 + z / 4] ++ [z % 4 * 64 + t]) d3 (by simp; omega)
    refine Ev.eq (Ev.step (fun k => s0 s out V i x a1 a2 ax hl k) (Ev.step (fun k => s6 s out V (i + 1) x y b1 b2 ax bx hl (by omega) k) (Ev.step (fun k => s4 s (out ++ [x * 4 + y / 16]) V (i + 1 + 1) (y % 16) z c1 c2 (by omega) cx hl (by simp; omega) k)
      (Ev.step (fun k => s2 s (out ++ [x * 4 + y / 16] ++ [y % 16 * 16 + z / 4]) V (i + 1 + 1 + 1) (z % 4) t d1 d2 (by omega) dx hl (by simp; omega) k) ih)))) ?_
    simp only [fin64, une, List.append_assoc, List.cons_append, List.nil_append, List.append_nil]
    rfl
/-- A triple of naturals as the print's. -/
def tri (r : List Nat × Nat × Nat) : List Int × Int × Int := (toI r.1, (r.2.1 : Int), (r.2.2 : Int))
theorem from64_ev (s : ByteArray) : Ev (fun k => digest_FromBase64.f k s) (tri (from64 (sN s))) := by
  unfold digest_FromBase64.f
  refine Ev.bind (vals_ev A64 s (by decide)) ?_
  rw [sN64]
  unfold from64
  rw [sN_len]
  by_cases h : s.size > 65536
  · rw [if_pos h, if_pos h]
    exact Ev.neg (by decide) (Ev.now _)
  · rw [if_neg h, if_neg h]
    cases hb : bad al64 (sN s) 0 with
    | some j => exact Ev.neg (by simp) (Ev.now _)
    | none =>
      have hl : ((sN s).map (value al64)).length = s.size := by rw [List.length_map, sN_len]
      simp only []
      refine Ev.pos (by simp) ?_
      by_cases h4 : s.size % 4 = 1
      · rw [if_pos h4]
        exact Ev.pos (by rw [toI_len, hl]; omega) (Ev.now _)
      · rw [if_neg h4]
        refine Ev.neg (by rw [toI_len, hl]; omega) ?_
        have hv : Lt 64 ((sN s).map (value al64)) := value_lt _ (good _ 0 hb)
        have hh := un64_ev s ((sN s).map (value al64)) (by omega) (by rw [hl]; omega) hv ((sN s).map (value al64)) 0 [] (by simp) (by simp)
        rw [toI_len]
        refine Ev.eq hh ?_
        unfold fin64
        by_cases h0 : (une ((sN s).map (value al64))).2 = 0
        · rw [if_pos h0, if_pos h0, List.nil_append]
          rfl
        · rw [if_neg h0, if_neg h0]
          have : s.size ≠ 0 := fun e => h0 (by
            have : (sN s).map (value al64) = [] := List.eq_nil_of_length_eq_zero (by rw [hl, e])
            rw [this]; rfl)
          show (([] : List Int), (21 : Int), (s.size : Int) - 1) = _
          unfold tri
          simp only []
          rw [show ((s.size - 1 : Nat) : Int) = (s.size : Int) - 1 by omega]
          rfl
/-- The hexadecimal side. -/
theorem put4 (n x : Nat) (hn : n < 1000) (hx : x < 16) : bits .or .i64 (wrap64 ((n : Int) * 16)) (x : Int) = ((n * 16 + x : Nat) : Int) := by
  rw [w64 (by omega) (by omega)]
  exact or_i64 n 4 x hx (by omega)
theorem un16_ev (V : List Nat) (hl : V.length ≤ 65536) (hV : Lt 16 V) (h2 : V.length % 2 ≠ 1) : ∀ (d : List Nat) (i : Nat) (out : List Nat), V.drop i = d → out.length ≤ i → i % 2 = 0 →
    Ev (fun k => digest_FromHex.l0 k (toI out) (i : Int) (toI V)) (toI (out ++ unf d), 0, 0)
  | [], i, out, hd, ho, hi => by
    have := drop_none hd
    refine Ev.step (f := fun _ => some (toI out, 0, 0)) (fun k => ?_) (Ev.eq (Ev.now _) (by simp [unf]))
    simp only [digest_FromHex.l0]
    rw [if_neg (by rw [toI_len]; omega)]
  | [x], i, out, hd, ho, hi => by
    obtain ⟨a1, a2, a3⟩ := drop_at hd
    have := drop_none a3
    omega
  | x :: y :: r, i, out, hd, ho, hi => by
    obtain ⟨a1, a2, a3⟩ := drop_at hd
    obtain ⟨b1, b2, b3⟩ := drop_at a3
    have ax : x < 16 := a2 ▸ hV _ (by rw [List.getD_eq_getElem?_getD, List.getElem?_eq_getElem a1]; exact List.getElem_mem a1)
    have bx : y < 16 := b2 ▸ hV _ (by rw [List.getD_eq_getElem?_getD, List.getElem?_eq_getElem b1]; exact List.getElem_mem b1)
    have ih := un16_ev V hl hV h2 r (i + 1 + 1) (out ++ [x * 16 + y]) b3 (by simp; omega) (by omega)
    have e1 : wrap64 ((i : Int) + 1) = ((i + 1 : Nat) : Int) := by rw [w64 (by omega) (by omega)]; rfl
    have e2 : wrap64 ((i : Int) + 2) = ((i + 1 + 1 : Nat) : Int) := by rw [w64 (by omega) (by omega)]; rfl
    refine Ev.eq (Ev.step (fun k => ?_) ih) (by rw [unf, List.append_assoc]; rfl)
    simp only [digest_FromHex.l0, e1, e2]
    rw [if_pos (by rw [toI_len]; omega), if_pos (by omega), if_pos (by omega), if_pos (by rw [toI_len]; omega), if_pos (by rw [toI_len]; omega), rd_toI, rd_toI, a2, b2, put4 x y (by omega) bx]
    rw [show ((x * 16 + y : Nat) : Int) % 256 = ((x * 16 + y : Nat) : Int) by omega, toI_push]
theorem from16_ev (s : ByteArray) : Ev (fun k => digest_FromHex.f k s) (tri (from16 (sN s))) := by
  unfold digest_FromHex.f
  refine Ev.bind (vals_ev A16 s (by decide)) ?_
  rw [sN16]
  unfold from16
  rw [sN_len]
  by_cases h : s.size > 65536
  · rw [if_pos h, if_pos h]
    exact Ev.neg (by decide) (Ev.now _)
  · rw [if_neg h, if_neg h]
    cases hb : bad al16 (sN s) 0 with
    | some j => exact Ev.neg (by simp) (Ev.now _)
    | none =>
      have hl : ((sN s).map (value al16)).length = s.size := by rw [List.length_map, sN_len]
      simp only []
      refine Ev.pos (by simp) ?_
      by_cases h4 : s.size % 2 = 1
      · rw [if_pos h4]
        exact Ev.pos (by rw [toI_len, hl]; omega) (Ev.now _)
      · rw [if_neg h4]
        refine Ev.neg (by rw [toI_len, hl]; omega) ?_
        have hv : Lt 16 ((sN s).map (value al16)) := value_lt _ (good _ 0 hb)
        exact un16_ev ((sN s).map (value al16)) (by rw [hl]; omega) hv (by rw [hl]; exact h4) ((sN s).map (value al16)) 0 [] (by simp) (by simp) rfl
theorem hex_ev (p : List Nat) (hp : Lt 256 p) (hl : p.length ≤ 1000000000000) : ∀ (d : List Nat) (i : Nat) (out : List Nat), p.drop i = d → out.length ≤ 2 * i →
    Ev (fun k => digest_Hex.l0 k (toI out) (toI p) (p.length : Int) (i : Int)) (strOfNums (toI (out ++ spell al16 (four d))))
  | [], i, out, hd, ho => by
    have := drop_none hd
    refine Ev.step (f := fun _ => some (strOfNums (toI out))) (fun k => ?_) (Ev.eq (Ev.now _) (by simp [four, spell]))
    simp only [digest_Hex.l0]
    rw [if_neg (by omega)]
  | x :: r, i, out, hd, ho => by
    obtain ⟨a1, a2, a3⟩ := drop_at hd
    have ax : x < 256 := a2 ▸ hp _ (by rw [List.getD_eq_getElem?_getD, List.getElem?_eq_getElem a1]; exact List.getElem_mem a1)
    have ih := hex_ev p hp hl r (i + 1) (out ++ [al16.getD (x / 16) 0, al16.getD (x % 16) 0]) a3 (by simp; omega)
    have e1 : wrap64 ((i : Int) + 1) = ((i + 1 : Nat) : Int) := by rw [w64 (by omega) (by omega)]; rfl
    have f1 : ((x : Int) / 16) = ((x / 16 : Nat) : Int) := by omega
    have f2 := and15 x ax
    have g1 := bt16 (x / 16) (by omega)
    have g2 := bt16 (x % 16) (by omega)
    refine Ev.eq (Ev.step (fun k => ?_) ih) (by rw [four_cons]; simp [spell])
    simp only [digest_Hex.l0, e1]
    rw [rd_toI, a2, f1, f2, g1, g2]
    rw [if_pos (by omega), if_pos (by omega), if_pos (by rw [toI_len]; omega), if_pos (by omega), if_pos (by omega), if_pos (by omega), if_pos (by omega)]
    simp only [Option.bind_some]
    rw [if_pos (by rw [toI_len]; simp; omega)]
    congr 1
    simp [toI]
theorem tohex_ev (p : List Nat) (hp : Lt 256 p) (hl : p.length ≤ 1000000000000) : Ev (fun k => digest_Hex.f k (toI p)) (strOfNums (toI (spell al16 (four p)))) := by
  have h := hex_ev p hp hl p 0 [] (by simp) (by simp)
  unfold digest_Hex.f
  rw [toI_len]
  exact h
theorem b64_j2 (p : List Nat) (out : List Nat) (i n : Nat) (hn : n < 16777216) (hl : p.length ≤ 1000000000000) (hi : i < p.length) (ho : out.length ≤ 4 * i) (k : Nat) :
    digest_Base64.j2 (k + 1) (toI p) (toI out) (i : Int) (n : Int) = digest_Base64.l0 k (toI p) (toI (out ++ (al64.getD (n / 262144) 0 :: al64.getD (n / 4096 % 64) 0 :: (if i + 1 < p.length then [al64.getD (n / 64 % 64) 0] else []) ++ (if i + 2 < p.length then [al64.getD (n % 64) 0] else [])))) ((i + 3 : Nat) : Int) := by
  have e1 : wrap64 ((i : Int) + 1) = ((i + 1 : Nat) : Int) := by rw [w64 (by omega) (by omega)]; rfl
  have e2 : wrap64 ((i : Int) + 2) = ((i + 2 : Nat) : Int) := by rw [w64 (by omega) (by omega)]; rfl
  have e3 : wrap64 ((i : Int) + 3) = ((i + 3 : Nat) : Int) := by rw [w64 (by omega) (by omega)]; rfl
  have f1 : ((n : Int) / 262144) = ((n / 262144 : Nat) : Int) := by omega
  have f2 : ((n : Int) / 4096) = ((n / 4096 : Nat) : Int) := by omega
  have f3 : ((n : Int) / 64) = ((n / 64 : Nat) : Int) := by omega
  have b1 := bt64 (n / 262144) (by omega)
  have b2 := bt64 (n / 4096 % 64) (by omega)
  have b3 := bt64 (n / 64 % 64) (by omega)
  have b4 := bt64 (n % 64) (by omega)
  have a2 := and63 (n / 4096) (by omega)
  have a3 := and63 (n / 64) (by omega)
  have a4 := and63 n (by omega)
  simp only [digest_Base64.j2, e1, e2, e3, f1, f2, f3, a2, a3, a4, b1, b2, b3, b4]
  rw [if_pos (by omega), if_pos (by omega), if_pos (by omega), if_pos (by omega)]
  simp only [Option.bind_some]
  rw [if_pos (by rw [toI_len]; simp; omega)]
  by_cases h1 : i + 1 < p.length
  · rw [if_pos (by rw [toI_len]; omega), if_pos (by omega), if_pos (by omega), if_pos (by rw [List.length_append, toI_len]; simp; omega), if_pos h1]
    by_cases h2 : i + 2 < p.length
    · rw [if_pos (by rw [toI_len]; omega), if_pos (by omega), if_pos (by omega), if_pos (by rw [List.length_append, List.length_append, toI_len]; simp; omega), if_pos h2]
      congr 1
      simp [toI]
    · rw [if_neg (by rw [toI_len]; omega), if_neg h2]
      congr 1
      simp [toI]
  · have h2 : ¬ (i + 2 < p.length) := by omega
    rw [if_neg (by rw [toI_len]; omega), if_neg (by rw [toI_len]; omega), if_neg h1, if_neg h2]
    congr 1
    simp [toI]
end Go.Proofs.YtfedlgcpgfofjaaDoor.Sha
namespace Go.Proofs.YtfedlgcpgfofjaaDoor.Sha
open Go.RowKit Go.Proofs.YtfedlgcpgfofjaaDoorW.PrintWords Go.Proofs.YtfedlgcpgfofjaaDoor.PAll Go.Proofs.YtfedlgcpgfofjaaDoor.Plain
set_option linter.unusedVariables false
set_option linter.unusedSimpArgs false
theorem three8 (a b : Nat) : (a * 256 + b) * 2 ^ 8 = a * 2 ^ 16 + b * 256 := by omega
theorem u16_ (a : Nat) (ha : a < 256) : IntKind.u64.wrap (IntKind.u64.wrap (a : Int) * 65536) = ((a * 2 ^ 16 : Nat) : Int) := by rw [u64_small a (by omega), show ((a : Int) * 65536) = ((a * 65536 : Nat) : Int) by omega, u64_small _ (by omega)]
theorem w8_ (b : Nat) (hb : b < 256) : IntKind.u64.wrap (IntKind.u64.wrap (b : Int) * 256) = ((b * 256 : Nat) : Int) := by rw [u64_small b (by omega), show ((b : Int) * 256) = ((b * 256 : Nat) : Int) by omega, u64_small _ (by omega)]
theorem or16 (a b : Nat) (ha : a < 256) (hb : b < 256) : bits .or .u64 ((a * 2 ^ 16 : Nat) : Int) ((b * 256 : Nat) : Int) = ((a * 2 ^ 16 + b * 256 : Nat) : Int) := or_u64 a 16 (b * 256) (by omega) (by omega)
theorem or8 (a b c : Nat) (ha : a < 256) (hb : b < 256) (hc : c < 256) : bits .or .u64 ((a * 2 ^ 16 + b * 256 : Nat) : Int) (c : Int) = ((a * 2 ^ 16 + b * 256 + c : Nat) : Int) := by
  have f4 := or_u64 (a * 256 + b) 8 c (by omega) (by omega)
  rw [three8 a b] at f4
  exact f4
theorem ar1 (a b c : Nat) (ha : a < 256) (hb : b < 256) (hc : c < 256) : (a * 2 ^ 16 + b * 256 + c) / 262144 = a / 4 := by omega
theorem ar2 (a b c : Nat) (ha : a < 256) (hb : b < 256) (hc : c < 256) : (a * 2 ^ 16 + b * 256 + c) / 4096 % 64 = a % 4 * 16 + b / 16 := by omega
theorem ar3 (a b c : Nat) (ha : a < 256) (hb : b < 256) (hc : c < 256) : (a * 2 ^ 16 + b * 256 + c) / 64 % 64 = b % 16 * 4 + c / 64 := by omega
theorem ar4 (a b c : Nat) (ha : a < 256) (hb : b < 256) (hc : c < 256) : (a * 2 ^ 16 + b * 256 + c) % 64 = c % 64 := by omega
theorem idx3 (p : List Nat) (i : Nat) (h : i + 1 + 1 < p.length) : ((i : Int) < ((toI p).length : Int)) ∧ (0 : Int) ≤ (i : Int) ∧ ((i + 1 : Nat) : Int) < ((toI p).length : Int) ∧ (0 : Int) ≤ ((i + 1 : Nat) : Int) ∧ ((i + 1 + 1 : Nat) : Int) < ((toI p).length : Int) ∧ (0 : Int) ≤ ((i + 1 + 1 : Nat) : Int) := by
  rw [toI_len]
  omega
theorem push4 (out : List Nat) (i x y z t : Nat) (ho : out.length ≤ 2 * i) : (out ++ [x, y, z, t]).length ≤ 2 * (i + 3) := by simp; omega
theorem lim3 (a b c : Nat) (ha : a < 256) (hb : b < 256) (hc : c < 256) : a * 2 ^ 16 + b * 256 + c < 16777216 := by omega
theorem c256 (c : Nat) (hc : c < 256) : c < 4611686018427387904 := by omega
theorem le4 (i n : Nat) (h : n ≤ 2 * i) : n ≤ 4 * i := by omega
theorem wr12 (i n : Nat) (hi : i < n) (hl : n ≤ 1000000000000) : wrap64 ((i : Int) + 1) = ((i + 1 : Nat) : Int) ∧ wrap64 ((i : Int) + 2) = ((i + 1 + 1 : Nat) : Int) := by
  rw [w64 (by omega) (by omega), w64 (by omega) (by omega)]
  exact ⟨rfl, rfl⟩
set_option maxHeartbeats 400000 in
theorem b64_ev (p : List Nat) (hp : Lt 256 p) (hl : p.length ≤ 1000000000000) : ∀ (d : List Nat) (i : Nat) (out : List Nat), p.drop i = d → out.length ≤ 2 * i →
    Ev (fun k => digest_Base64.l0 k (toI p) (toI out) (i : Int)) (strOfNums (toI (out ++ spell al64 (six d))))
  | [], i, out, hd, ho => by
    have := drop_none hd
    refine Ev.step (f := fun _ => some (strOfNums (toI out))) (fun k => ?_) (Ev.eq (Ev.now _) (by rw [six, spell, List.map_nil, List.append_nil]))
    simp only [digest_Base64.l0]
    rw [if_neg (by rw [toI_len]; omega)]
  | [a], i, out, hd, ho => by
    obtain ⟨a1, a2, a3⟩ := drop_at hd
    have ax : a < 256 := a2 ▸ hp _ (by rw [List.getD_eq_getElem?_getD, List.getElem?_eq_getElem a1]; exact List.getElem_mem a1)
    have hn := drop_none a3
    have e1 : wrap64 ((i : Int) + 1) = ((i + 1 : Nat) : Int) := by rw [w64 (by omega) (by omega)]; rfl
    have e2 : wrap64 ((i : Int) + 2) = ((i + 2 : Nat) : Int) := by rw [w64 (by omega) (by omega)]; rfl
    have ih := b64_ev p hp hl [] (i + 3) (out ++ [al64.getD (a / 4) 0, al64.getD (a % 4 * 16) 0]) (List.drop_eq_nil_of_le (by omega)) (by simp; omega)
    refine Ev.eq (Ev.step (f := fun k => digest_Base64.j1 k (toI p) (toI out) (i : Int) ((a * 2 ^ 16 : Nat) : Int)) (fun k => ?_) (Ev.step (f := fun k => digest_Base64.j2 k (toI p) (toI out) (i : Int) ((a * 2 ^ 16 : Nat) : Int)) (fun k => ?_) (Ev.step (fun k => ?_) ih))) (by simp only [six, spell, List.map_cons, List.map_nil, List.append_assoc, List.cons_append, List.nil_append, List.append_nil])
    · simp only [digest_Base64.l0, e1]
      rw [if_pos (by rw [toI_len]; omega), if_pos (by omega), if_neg (by rw [toI_len]; omega), rd_toI, a2, u16_ a ax]
    · simp only [digest_Base64.j1, e2]
      rw [if_neg (by rw [toI_len]; omega)]
    · rw [b64_j2 p out i (a * 2 ^ 16) (by omega) hl a1 (by omega) k, if_neg (by omega), if_neg (by omega), show a * 2 ^ 16 / 262144 = a / 4 by omega, show a * 2 ^ 16 / 4096 % 64 = a % 4 * 16 by omega]
      exact congrArg (fun z => digest_Base64.l0 k (toI p) (toI z) ((i + 3 : Nat) : Int)) (by simp only [List.cons_append, List.nil_append, List.append_nil])
  | [a, b], i, out, hd, ho => by
    obtain ⟨a1, a2, a3⟩ := drop_at hd
    obtain ⟨b1, b2, b3⟩ := drop_at a3
    have ax : a < 256 := a2 ▸ hp _ (by rw [List.getD_eq_getElem?_getD, List.getElem?_eq_getElem a1]; exact List.getElem_mem a1)
    have bx : b < 256 := b2 ▸ hp _ (by rw [List.getD_eq_getElem?_getD, List.getElem?_eq_getElem b1]; exact List.getElem_mem b1)
    have hn := drop_none b3
    have e1 : wrap64 ((i : Int) + 1) = ((i + 1 : Nat) : Int) := by rw [w64 (by omega) (by omega)]; rfl
    have e2 : wrap64 ((i : Int) + 2) = ((i + 2 : Nat) : Int) := by rw [w64 (by omega) (by omega)]; rfl
    have ih := b64_ev p hp hl [] (i + 3) (out ++ [al64.getD (a / 4) 0, al64.getD (a % 4 * 16 + b / 16) 0, al64.getD (b % 16 * 4) 0]) (List.drop_eq_nil_of_le (by omega)) (by simp; omega)
    refine Ev.eq (Ev.step (f := fun k => digest_Base64.j1 k (toI p) (toI out) (i : Int) ((a * 2 ^ 16 + b * 256 : Nat) : Int)) (fun k => ?_) (Ev.step (f := fun k => digest_Base64.j2 k (toI p) (toI out) (i : Int) ((a * 2 ^ 16 + b * 256 : Nat) : Int)) (fun k => ?_) (Ev.step (fun k => ?_) ih))) (by simp only [six, spell, List.map_cons, List.map_nil, List.append_assoc, List.cons_append, List.nil_append, List.append_nil])
    · simp only [digest_Base64.l0, e1]
      rw [if_pos (by rw [toI_len]; omega), if_pos (by omega), if_pos (by rw [toI_len]; omega), if_pos (by omega), rd_toI, rd_toI, a2, b2, u16_ a ax, w8_ b bx, or16 a b ax bx]
    · simp only [digest_Base64.j1, e2]
      rw [if_neg (by rw [toI_len]; omega)]
    · rw [b64_j2 p out i (a * 2 ^ 16 + b * 256) (by omega) hl a1 (by omega) k, if_pos (by omega), if_neg (by omega), show (a * 2 ^ 16 + b * 256) / 262144 = a / 4 by omega, show (a * 2 ^ 16 + b * 256) / 4096 % 64 = a % 4 * 16 + b / 16 by omega, show (a * 2 ^ 16 + b * 256) / 64 % 64 = b % 16 * 4 by omega]
      exact congrArg (fun z => digest_Base64.l0 k (toI p) (toI z) ((i + 3 : Nat) : Int)) (by simp only [List.cons_append, List.nil_append, List.append_nil])
  | a :: b :: c :: r, i, out, hd, ho => by
    obtain ⟨a1, a2, a3⟩ := drop_at hd
    obtain ⟨b1, b2, b3⟩ := drop_at a3
    obtain ⟨c1, c2, c3⟩ := drop_at b3
    have ax : a < 256 := a2 ▸ hp _ (by rw [List.getD_eq_getElem?_getD, List.getElem?_eq_getElem a1]; exact List.getElem_mem a1)
    have bx : b < 256 := b2 ▸ hp _ (by rw [List.getD_eq_getElem?_getD, List.getElem?_eq_getElem b1]; exact List.getElem_mem b1)
    have cx : c < 256 := c2 ▸ hp _ (by rw [List.getD_eq_getElem?_getD, List.getElem?_eq_getElem c1]; exact List.getElem_mem c1)
    obtain ⟨e1, e2⟩ := wr12 i p.length a1 hl
    obtain ⟨i1, i2, i3, i4, i5, i6⟩ := idx3 p i c1
    have ih := b64_ev p hp hl r (i + 3) (out ++ [al64.getD (a / 4) 0, al64.getD (a % 4 * 16 + b / 16) 0, al64.getD (b % 16 * 4 + c / 64) 0, al64.getD (c % 64) 0]) c3 (push4 out i _ _ _ _ ho)
    have h2 := b64_j2 p out i (a * 2 ^ 16 + b * 256 + c) (lim3 a b c ax bx cx) hl a1 (le4 i _ ho)
    rw [if_pos b1, if_pos (show i + 2 < p.length from c1), ar1 a b c ax bx cx, ar2 a b c ax bx cx, ar3 a b c ax bx cx, ar4 a b c ax bx cx] at h2
    refine Ev.eq (Ev.step (f := fun k => digest_Base64.j1 k (toI p) (toI out) (i : Int) ((a * 2 ^ 16 + b * 256 : Nat) : Int)) (fun k => ?_) (Ev.step (f := fun k => digest_Base64.j2 k (toI p) (toI out) (i : Int) ((a * 2 ^ 16 + b * 256 + c : Nat) : Int)) (fun k => ?_) (Ev.step (fun k => h2 k) ih))) (by simp only [six, spell, List.map_cons, List.map_nil, List.append_assoc, List.cons_append, List.nil_append, List.append_nil])
    · simp only [digest_Base64.l0, e1]
      rw [if_pos i1, if_pos i2, if_pos i3, if_pos i4, rd_toI, rd_toI, a2, b2, u16_ a ax, w8_ b bx, or16 a b ax bx]
    · simp only [digest_Base64.j1, e2]
      rw [if_pos i5, if_pos i6, rd_toI, c2, u64_small c (c256 c cx), or8 a b c ax bx cx]
theorem tob64_ev (p : List Nat) (hp : Lt 256 p) (hl : p.length ≤ 1000000000000) : Ev (fun k => digest_Base64.f k (toI p)) (strOfNums (toI (spell al64 (six p)))) := by
  have h := b64_ev p hp hl p 0 [] (by simp) (by simp)
  unfold digest_Base64.f
  exact h
end Go.Proofs.YtfedlgcpgfofjaaDoor.Sha
