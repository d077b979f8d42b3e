/-
  Base64 of bytes, by the program and by the reference: what both print, as lists; no two lists print alike.
-/
import Derived.Test.YtaeipffenlkjpaaCIsCode
import Derived.Test.YtaeipffenlkjpaaPAllx1
import Derived.Test.YtaeipffenlkjpaaPAllx4
import Derived.Test.YtaeipffenlkjpaaPAllx5
import Derived.Test.YtaeipffenlkjpaaPlain
namespace Go.Proofs.Ytaeipffenlkjpaa.Sha
open Go.RowKit Go.Proofs.YtaeipffenlkjpaaW.PrintWords Go.Proofs.Ytaeipffenlkjpaa.PAll Go.Proofs.Ytaeipffenlkjpaa.Plain
set_option linter.unusedVariables false
set_option linter.unusedSimpArgs false
theorem bitOr (a i b : Nat) (hb : b < 2 ^ i) : a * 2 ^ i ||| b = a * 2 ^ i + b := by
  rw [Nat.mul_comm, ← Nat.two_pow_add_eq_or_of_lt hb]
/-- Six bits a number, of bytes. -/
def six : List Nat → List Nat
  | [] => []
  | [a] => [a / 4, a % 4 * 16]
  | [a, b] => [a / 4, a % 4 * 16 + b / 16, b % 16 * 4]
  | a :: b :: c :: r => a / 4 :: (a % 4 * 16 + b / 16) :: (b % 16 * 4 + c / 64) :: c % 64 :: six r
/-- Bytes, of six bits a number; and what is left. -/
def une : List Nat → List Nat × Nat
  | [] => ([], 0)
  | [x] => ([], x)
  | [x, y] => ([x * 4 + y / 16], y % 16)
  | [x, y, z] => ([x * 4 + y / 16, y % 16 * 16 + z / 4], z % 4)
  | x :: y :: z :: t :: r => ((x * 4 + y / 16) :: (y % 16 * 16 + z / 4) :: (z % 4 * 64 + t) :: (une r).1, (une r).2)
def Lt (b : Nat) (l : List Nat) : Prop := ∀ x ∈ l, x < b
theorem Lt.cons {b x : Nat} {l : List Nat} (h : Lt b (x :: l)) : x < b ∧ Lt b l := ⟨h x (by simp), fun y hy => h y (by simp [hy])⟩
theorem Lt.mk {b x : Nat} {l : List Nat} (h : x < b) (t : Lt b l) : Lt b (x :: l) := fun y hy => by
  rcases List.mem_cons.1 hy with rfl | hy
  · exact h
  · exact t y hy
theorem Lt.nil (b : Nat) : Lt b [] := fun x hx => by simp at hx
theorem six_lt : ∀ (p : List Nat), Lt 256 p → Lt 64 (six p)
  | [], _ => Lt.nil _
  | [a], h => by
    have h1 := h.cons.1
    exact Lt.mk (by omega) (Lt.mk (by omega) (Lt.nil _))
  | [a, b], h => by
    have h1 := h.cons.1
    have h2 := h.cons.2.cons.1
    exact Lt.mk (by omega) (Lt.mk (by omega) (Lt.mk (by omega) (Lt.nil _)))
  | a :: b :: c :: r, h => by
    have h1 := h.cons.1
    have h2 := h.cons.2.cons.1
    have h3 := h.cons.2.cons.2.cons.1
    exact Lt.mk (by omega) (Lt.mk (by omega) (Lt.mk (by omega) (Lt.mk (by omega) (six_lt r h.cons.2.cons.2.cons.2))))
theorem une_six : ∀ (p : List Nat), Lt 256 p → une (six p) = (p, 0)
  | [], _ => rfl
  | [a], h => by
    have h1 := h.cons.1
    simp only [six, une, Prod.mk.injEq, List.cons.injEq, and_true]
    omega
  | [a, b], h => by
    have h1 := h.cons.1
    have h2 := h.cons.2.cons.1
    simp only [six, une, Prod.mk.injEq, List.cons.injEq, and_true]
    omega
  | a :: b :: c :: r, h => by
    have h1 := h.cons.1
    have h2 := h.cons.2.cons.1
    have h3 := h.cons.2.cons.2.cons.1
    have ih := une_six r h.cons.2.cons.2.cons.2
    simp only [six, une, ih, Prod.mk.injEq, List.cons.injEq, and_true]
    omega
theorem six_len : ∀ (p : List Nat), (six p).length % 4 ≠ 1
  | [] => by simp [six]
  | [a] => by simp [six]
  | [a, b] => by simp [six]
  | a :: b :: c :: r => by
    have := six_len r
    simp only [six, List.length_cons]
    omega
/-- The letters. -/
def al64 : List Nat := [65, 66, 67, 68, 69, 70, 71, 72, 73, 74, 75, 76, 77, 78, 79, 80, 81, 82, 83, 84, 85, 86, 87, 88, 89, 90, 97, 98, 99, 100, 101, 102, 103, 104, 105, 106, 107, 108, 109, 110, 111, 112, 113, 114, 115, 116, 117, 118, 119, 120, 121, 122, 48, 49, 50, 51, 52, 53, 54, 55, 56, 57, 45, 95]
/-- The letters of numbers; the numbers of letters; the first that is none. -/
def spell (al v : List Nat) : List Nat := v.map fun n => al.getD n 0
def value (al : List Nat) (c : Nat) : Nat := al.idxOf c
theorem al64_back : ∀ n, n < 64 → al64.getD n 0 ∈ al64 ∧ value al64 (al64.getD n 0) = n := by decide +kernel
theorem value_spell {al : List Nat} {b : Nat} (hal : ∀ n, n < b → al.getD n 0 ∈ al ∧ value al (al.getD n 0) = n) (v : List Nat) (h : Lt b v) : (spell al v).map (value al) = v := by
  unfold spell
  rw [List.map_map]
  conv => rhs; rw [← List.map_id v]
  exact List.map_congr_left fun x hx => (hal x (h x hx)).2
theorem u64_small (x : Nat) (h : x < 4611686018427387904) : IntKind.u64.wrap (x : Int) = (x : Int) := by show (x : Int) % 18446744073709551616 = x; omega
theorem ofInt_64 (x : Nat) (h : x < 4611686018427387904) : (BitVec.ofInt 64 (x : Int)).toNat = x := by simp; omega
theorem or_u64 (a i b : Nat) (hb : b < 2 ^ i) (hs : a * 2 ^ i + b < 4611686018427387904) : bits .or .u64 ((a * 2 ^ i : Nat) : Int) (b : Int) = ((a * 2 ^ i + b : Nat) : Int) := by
  show IntKind.u64.wrap ((BitVec.ofInt 64 ((a * 2 ^ i : Nat) : Int) ||| BitVec.ofInt 64 (b : Int)).toNat : Int) = _
  rw [BitVec.toNat_or, ofInt_64 _ (by omega), ofInt_64 _ (by omega), bitOr a i b hb, u64_small _ hs]
theorem and_u64 (m j : Nat) (hm : m < 4611686018427387904) (hj : 2 ^ j - 1 < 4611686018427387904) : bits .and .u64 (m : Int) ((2 ^ j - 1 : Nat) : Int) = ((m % 2 ^ j : Nat) : Int) := by
  show IntKind.u64.wrap ((BitVec.ofInt 64 (m : Int) &&& BitVec.ofInt 64 ((2 ^ j - 1 : Nat) : Int)).toNat : Int) = _
  rw [BitVec.toNat_and, ofInt_64 _ hm, ofInt_64 _ hj, Nat.and_two_pow_sub_one_eq_mod, u64_small _ (Nat.lt_of_le_of_lt (Nat.mod_le _ _) hm)]
theorem and63 (m : Nat) (hm : m < 4611686018427387904) : bits .and .u64 (m : Int) 63 = ((m % 64 : Nat) : Int) := and_u64 m 6 hm (by decide)
theorem sN_all (s : ByteArray) : Lt 256 (sN s) := fun x hx => by
  obtain ⟨c, _, rfl⟩ := List.mem_map.1 hx
  exact c.toNat_lt
theorem bt_sN (s : ByteArray) (i : Nat) (h : i < s.size) : bt s (i : Int) = (((sN s).getD i 0 : Nat) : Int) := by
  have h' : i < (sN s).length := by rw [sN_len]; exact h
  rw [List.getD_eq_getElem?_getD, List.getElem?_eq_getElem h']
  unfold bt
  rw [dif_pos (by simpa using h)]
  simp [sN]
  rfl
theorem rd_toI (p : List Nat) (i : Nat) : rd (toI p) (i : Int) = ((p.getD i 0 : Nat) : Int) := by unfold rd; rw [Int.toNat_natCast, toI_getD]
theorem drop_at {d : List Nat} {p : List Nat} {i x : Nat} (h : p.drop i = x :: d) : i < p.length ∧ p.getD i 0 = x ∧ p.drop (i + 1) = d := by
  have hl : i < p.length := by
    rcases Nat.lt_or_ge i p.length with h1 | h1
    · exact h1
    · rw [List.drop_eq_nil_of_le h1] at h; cases h
  rw [List.drop_eq_getElem_cons hl] at h
  injection h with h1 h2
  exact ⟨hl, by rw [List.getD_eq_getElem?_getD, List.getElem?_eq_getElem hl]; exact h1, h2⟩
theorem drop_none {p : List Nat} {i : Nat} (h : p.drop i = []) : p.length ≤ i := by
  rcases Nat.lt_or_ge i p.length with h1 | h1
  · rw [List.drop_eq_getElem_cons h1] at h; cases h
  · exact h1
abbrev A64 : ByteArray := ⟨#[65, 66, 67, 68, 69, 70, 71, 72, 73, 74, 75, 76, 77, 78, 79, 80, 81, 82, 83, 84, 85, 86, 87, 88, 89, 90, 97, 98, 99, 100, 101, 102, 103, 104, 105, 106, 107, 108, 109, 110, 111, 112, 113, 114, 115, 116, 117, 118, 119, 120, 121, 122, 48, 49, 50, 51, 52, 53, 54, 55, 56, 57, 45, 95]⟩
theorem sN64 : sN A64 = al64 := by kernel_rfl
theorem bt64 (n : Nat) (h : n < 64) : bt A64 (n : Int) = ((al64.getD n 0 : Nat) : Int) := by rw [bt_sN A64 n h, sN64]
theorem toI_push (out : List Nat) (x : Nat) : toI out ++ [(x : Int)] = toI (out ++ [x]) := by simp [toI]
theorem b64_j2 (p : List Nat) (out : List Nat) (i n : Nat) (hn : n < 16777216) (hl : p.length ≤ 1000000000000) (hi : i < p.length) (ho : out.length ≤ 4 * i) (k : Nat) :
    digest_Base64.j2 (k + 1) (toI p) (toI out) (i : Int) (n : Int) = digest_Base64.l0 k (toI p) (toI (out ++ (al64.getD (n / 262144) 0 :: al64.getD (n / 4096 % 64) 0 :: (if i + 1 < p.length then [al64.getD (n / 64 % 64) 0] else []) ++ (if i + 2 < p.length then [al64.getD (n % 64) 0] else [])))) ((i + 3 : Nat) : Int) := by
  have e1 : wrap64 ((i : Int) + 1) = ((i + 1 : Nat) : Int) := by rw [w64 (by omega) (by omega)]; rfl
  have e2 : wrap64 ((i : Int) + 2) = ((i + 2 : Nat) : Int) := by rw [w64 (by omega) (by omega)]; rfl
  have e3 : wrap64 ((i : Int) + 3) = ((i + 3 : Nat) : Int) := by rw [w64 (by omega) (by omega)]; rfl
  have f1 : ((n : Int) / 262144) = ((n / 262144 : Nat) : Int) := by omega
  have f2 : ((n : Int) / 4096) = ((n / 4096 : Nat) : Int) := by omega
  have f3 : ((n : Int) / 64) = ((n / 64 : Nat) : Int) := by omega
  have b1 := bt64 (n / 262144) (by omega)
  have b2 := bt64 (n / 4096 % 64) (by omega)
  have b3 := bt64 (n / 64 % 64) (by omega)
  have b4 := bt64 (n % 64) (by omega)
  have a2 := and63 (n / 4096) (by omega)
  have a3 := and63 (n / 64) (by omega)
  have a4 := and63 n (by omega)
  simp only [digest_Base64.j2, e1, e2, e3, f1, f2, f3, a2, a3, a4, b1, b2, b3, b4]
  rw [if_pos (by omega), if_pos (by omega), if_pos (by omega), if_pos (by omega)]
  simp only [Option.bind_some]
  rw [if_pos (by rw [toI_len]; simp; omega)]
  by_cases h1 : i + 1 < p.length
  · rw [if_pos (by rw [toI_len]; omega), if_pos (by omega), if_pos (by omega), if_pos (by rw [List.length_append, toI_len]; simp; omega), if_pos h1]
    by_cases h2 : i + 2 < p.length
    · rw [if_pos (by rw [toI_len]; omega), if_pos (by omega), if_pos (by omega), if_pos (by rw [List.length_append, List.length_append, toI_len]; simp; omega), if_pos h2]
      congr 1
      simp [toI]
    · rw [if_neg (by rw [toI_len]; omega), if_neg h2]
      congr 1
      simp [toI]
  · have h2 : ¬ (i + 2 < p.length) := by omega
    rw [if_neg (by rw [toI_len]; omega), if_neg (by rw [toI_len]; omega), if_neg h1, if_neg h2]
    congr 1
    simp [toI]
theorem three8 (a b : Nat) : (a * 256 + b) * 2 ^ 8 = a * 2 ^ 16 + b * 256 := by omega
theorem u16_ (a : Nat) (ha : a < 256) : IntKind.u64.wrap (IntKind.u64.wrap (a : Int) * 65536) = ((a * 2 ^ 16 : Nat) : Int) := by rw [u64_small a (by omega), show ((a : Int) * 65536) = ((a * 65536 : Nat) : Int) by omega, u64_small _ (by omega)]
theorem w8_ (b : Nat) (hb : b < 256) : IntKind.u64.wrap (IntKind.u64.wrap (b : Int) * 256) = ((b * 256 : Nat) : Int) := by rw [u64_small b (by omega), show ((b : Int) * 256) = ((b * 256 : Nat) : Int) by omega, u64_small _ (by omega)]
theorem or16 (a b : Nat) (ha : a < 256) (hb : b < 256) : bits .or .u64 ((a * 2 ^ 16 : Nat) : Int) ((b * 256 : Nat) : Int) = ((a * 2 ^ 16 + b * 256 : Nat) : Int) := or_u64 a 16 (b * 256) (by omega) (by omega)
theorem or8 (a b c : Nat) (ha : a < 256) (hb : b < 256) (hc : c < 256) : bits .or .u64 ((a * 2 ^ 16 + b * 256 : Nat) : Int) (c : Int) = ((a * 2 ^ 16 + b * 256 + c : Nat) : Int) := by
  have f4 := or_u64 (a * 256 + b) 8 c (by omega) (by omega)
  rw [three8 a b] at f4
  exact f4
theorem ar1 (a b c : Nat) (ha : a < 256) (hb : b < 256) (hc : c < 256) : (a * 2 ^ 16 + b * 256 + c) / 262144 = a / 4 := by omega
theorem ar2 (a b c : Nat) (ha : a < 256) (hb : b < 256) (hc : c < 256) : (a * 2 ^ 16 + b * 256 + c) / 4096 % 64 = a % 4 * 16 + b / 16 := by omega
theorem ar3 (a b c : Nat) (ha : a < 256) (hb : b < 256) (hc : c < 256) : (a * 2 ^ 16 + b * 256 + c) / 64 % 64 = b % 16 * 4 + c / 64 := by omega
theorem ar4 (a b c : Nat) (ha : a < 256) (hb : b < 256) (hc : c < 256) : (a * 2 ^ 16 + b * 256 + c) % 64 = c % 64 := by omega
theorem idx3 (p : List Nat) (i : Nat) (h : i + 1 + 1 < p.length) : ((i : Int) < ((toI p).length : Int)) ∧ (0 : Int) ≤ (i : Int) ∧ ((i + 1 : Nat) : Int) < ((toI p).length : Int) ∧ (0 : Int) ≤ ((i + 1 : Nat) : Int) ∧ ((i + 1 + 1 : Nat) : Int) < ((toI p).length : Int) ∧ (0 : Int) ≤ ((i + 1 + 1 : Nat) : Int) := by
  rw [toI_len]
  omega
theorem push4 (out : List Nat) (i x y z t : Nat) (ho : out.length ≤ 2 * i) : (out ++ [x, y, z, t]).length ≤ 2 * (i + 3) := by simp; omega
theorem lim3 (a b c : Nat) (ha : a < 256) (hb : b < 256) (hc : c < 256) : a * 2 ^ 16 + b * 256 + c < 16777216 := by omega
theorem c256 (c : Nat) (hc : c < 256) : c < 4611686018427387904 := by omega
theorem le4 (i n : Nat) (h : n ≤ 2 * i) : n ≤ 4 * i := by omega
theorem wr12 (i n : Nat) (hi : i < n) (hl : n ≤ 1000000000000) : wrap64 ((i : Int) + 1) = ((i + 1 : Nat) : Int) ∧ wrap64 ((i : Int) + 2) = ((i + 1 + 1 : Nat) : Int) := by
  rw [w64 (by omega) (by omega), w64 (by omega) (by omega)]
  exact ⟨rfl, rfl⟩
set_option maxHeartbeats 400000 in
theorem b64_ev (p : List Nat) (hp : Lt 256 p) (hl : p.length ≤ 1000000000000) : ∀ (d : List Nat) (i : Nat) (out : List Nat), p.drop i = d → out.length ≤ 2 * i →
    Ev (fun k => digest_Base64.l0 k (toI p) (toI out) (i : Int)) (strOfNums (toI (out ++ spell al64 (six d))))
  | [], i, out, hd, ho => by
    have := drop_none hd
    refine Ev.step (f := fun _ => some (strOfNums (toI out))) (fun k => ?_) (Ev.eq (Ev.now _) (by rw [six, spell, List.map_nil, List.append_nil]))
    simp only [digest_Base64.l0]
    rw [if_neg (by rw [toI_len]; omega)]
  | [a], i, out, hd, ho => by
    obtain ⟨a1, a2, a3⟩ := drop_at hd
    have ax : a < 256 := a2 ▸ hp _ (by rw [List.getD_eq_getElem?_getD, List.getElem?_eq_getElem a1]; exact List.getElem_mem a1)
    have hn := drop_none a3
    have e1 : wrap64 ((i : Int) + 1) = ((i + 1 : Nat) : Int) := by rw [w64 (by omega) (by omega)]; rfl
    have e2 : wrap64 ((i : Int) + 2) = ((i + 2 : Nat) : Int) := by rw [w64 (by omega) (by omega)]; rfl
    have ih := b64_ev p hp hl [] (i + 3) (out ++ [al64.getD (a / 4) 0, al64.getD (a % 4 * 16) 0]) (List.drop_eq_nil_of_le (by omega)) (by simp; omega)
    refine Ev.eq (Ev.step (f := fun k => digest_Base64.j1 k (toI p) (toI out) (i : Int) ((a * 2 ^ 16 : Nat) : Int)) (fun k => ?_) (Ev.step (f := fun k => digest_Base64.j2 k (toI p) (toI out) (i : Int) ((a * 2 ^ 16 : Nat) : Int)) (fun k => ?_) (Ev.step (fun k => ?_) ih))) (by simp only [six, spell, List.map_cons, List.map_nil, List.append_assoc, List.cons_append, List.nil_append, List.append_nil])
    · simp only [digest_Base64.l0, e1]
      rw [if_pos (by rw [toI_len]; omega), if_pos (by omega), if_neg (by rw [toI_len]; omega), rd_toI, a2, u16_ a ax]
    · simp only [digest_Base64.j1, e2]
      rw [if_neg (by rw [toI_len]; omega)]
    · rw [b64_j2 p out i (a * 2 ^ 16) (by omega) hl a1 (by omega) k, if_neg (by omega), if_neg (by omega), show a * 2 ^ 16 / 262144 = a / 4 by omega, show a * 2 ^ 16 / 4096 % 64 = a % 4 * 16 by omega]
      exact congrArg (fun z => digest_Base64.l0 k (toI p) (toI z) ((i + 3 : Nat) : Int)) (by simp only [List.cons_append, List.nil_append, List.append_nil])
  | [a, b], i, out, hd, ho => by
    obtain ⟨a1, a2, a3⟩ := drop_at hd
    obtain ⟨b1, b2, b3⟩ := drop_at a3
    have ax : a < 256 := a2 ▸ hp _ (by rw [List.getD_eq_getElem?_getD, List.getElem?_eq_getElem a1]; exact List.getElem_mem a1)
    have bx : b < 256 := b2 ▸ hp _ (by rw [List.getD_eq_getElem?_getD, List.getElem?_eq_getElem b1]; exact List.getElem_mem b1)
    have hn := drop_none b3
    have e1 : wrap64 ((i : Int) + 1) = ((i + 1 : Nat) : Int) := by rw [w64 (by omega) (by omega)]; rfl
    have e2 : wrap64 ((i : Int) + 2) = ((i + 2 : Nat) : Int) := by rw [w64 (by omega) (by omega)]; rfl
    have ih := b64_ev p hp hl [] (i + 3) (out ++ [al64.getD (a / 4) 0, al64.getD (a % 4 * 16 + b / 16) 0, al64.getD (b % 16 * 4) 0]) (List.drop_eq_nil_of_le (by omega)) (by simp; omega)
    refine Ev.eq (Ev.step (f := fun k => digest_Base64.j1 k (toI p) (toI out) (i : Int) ((a * 2 ^ 16 + b * 256 : Nat) : Int)) (fun k => ?_) (Ev.step (f := fun k => digest_Base64.j2 k (toI p) (toI out) (i : Int) ((a * 2 ^ 16 + b * 256 : Nat) : Int)) (fun k => ?_) (Ev.step (fun k => ?_) ih))) (by simp only [six, spell, List.map_cons, List.map_nil, List.append_assoc, List.cons_append, List.nil_append, List.append_nil])
    · simp only [digest_Base64.l0, e1]
      rw [if_pos (by rw [toI_len]; omega), if_pos (by omega), if_pos (by rw [toI_len]; omega), if_pos (by omega), rd_toI, rd_toI, a2, b2, u16_ a ax, w8_ b bx, or16 a b ax bx]
    · simp only [digest_Base64.j1, e2]
      rw [if_neg (by rw [toI_len]; omega)]
    · rw [b64_j2 p out i (a * 2 ^ 16 + b * 256) (by omega) hl a1 (by omega) k, if_pos (by omega), if_neg (by omega), show (a * 2 ^ 16 + b * 256) / 262144 = a / 4 by omega, show (a * 2 ^ 16 + b * 256) / 4096 % 64 = a % 4 * 16 + b / 16 by omega, show (a * 2 ^ 16 + b * 256) / 64 % 64 = b % 16 * 4 by omega]
      exact congrArg (fun z => digest_Base64.l0 k (toI p) (toI z) ((i + 3 : Nat) : Int)) (by simp only [List.cons_append, List.nil_append, List.append_nil])
  | a :: b :: c :: r, i, out, hd, ho => by
    obtain ⟨a1, a2, a3⟩ := drop_at hd
    obtain ⟨b1, b2, b3⟩ := drop_at a3
    obtain ⟨c1, c2, c3⟩ := drop_at b3
    have ax : a < 256 := a2 ▸ hp _ (by rw [List.getD_eq_getElem?_getD, List.getElem?_eq_getElem a1]; exact List.getElem_mem a1)
    have bx : b < 256 := b2 ▸ hp _ (by rw [List.getD_eq_getElem?_getD, List.getElem?_eq_getElem b1]; exact List.getElem_mem b1)
    have cx : c < 256 := c2 ▸ hp _ (by rw [List.getD_eq_getElem?_getD, List.getElem?_eq_getElem c1]; exact List.getElem_mem c1)
    obtain ⟨e1, e2⟩ := wr12 i p.length a1 hl
    obtain ⟨i1, i2, i3, i4, i5, i6⟩ := idx3 p i c1
    have ih := b64_ev p hp hl r (i + 3) (out ++ [al64.getD (a / 4) 0, al64.getD (a % 4 * 16 + b / 16) 0, al64.getD (b % 16 * 4 + c / 64) 0, al64.getD (c % 64) 0]) c3 (push4 out i _ _ _ _ ho)
    have h2 := b64_j2 p out i (a * 2 ^ 16 + b * 256 + c) (lim3 a b c ax bx cx) hl a1 (le4 i _ ho)
    rw [if_pos b1, if_pos (show i + 2 < p.length from c1), ar1 a b c ax bx cx, ar2 a b c ax bx cx, ar3 a b c ax bx cx, ar4 a b c ax bx cx] at h2
    refine Ev.eq (Ev.step (f := fun k => digest_Base64.j1 k (toI p) (toI out) (i : Int) ((a * 2 ^ 16 + b * 256 : Nat) : Int)) (fun k => ?_) (Ev.step (f := fun k => digest_Base64.j2 k (toI p) (toI out) (i : Int) ((a * 2 ^ 16 + b * 256 + c : Nat) : Int)) (fun k => ?_) (Ev.step (fun k => h2 k) ih))) (by simp only [six, spell, List.map_cons, List.map_nil, List.append_assoc, List.cons_append, List.nil_append, List.append_nil])
    · simp only [digest_Base64.l0, e1]
      rw [if_pos i1, if_pos i2, if_pos i3, if_pos i4, rd_toI, rd_toI, a2, b2, u16_ a ax, w8_ b bx, or16 a b ax bx]
    · simp only [digest_Base64.j1, e2]
      rw [if_pos i5, if_pos i6, rd_toI, c2, u64_small c (c256 c cx), or8 a b c ax bx cx]
theorem tob64_ev (p : List Nat) (hp : Lt 256 p) (hl : p.length ≤ 1000000000000) : Ev (fun k => digest_Base64.f k (toI p)) (strOfNums (toI (spell al64 (six p)))) := by
  have h := b64_ev p hp hl p 0 [] (by simp) (by simp)
  unfold digest_Base64.f
  exact h
theorem letter_all : ((List.range 64).all fun n => wicketref02_letter.f ((n : Nat) : Int) == some ((al64.getD n 0 : Nat) : Int)) = true := by kernel_rfl
theorem letter_f (n : Nat) (h : n < 64) : wicketref02_letter.f (n : Int) = some ((al64.getD n 0 : Nat) : Int) := by
  have := List.all_eq_true.1 letter_all n (List.mem_range.2 h)
  exact eq_of_beq this
theorem w64n (x : Nat) (h : x < 1000000000000000) : wrap64 (x : Int) = (x : Int) := w64 (by omega) (by omega)
/-- The bits of bytes. -/
def bitN (p : List Nat) (i : Nat) : Nat := p.getD (i / 8) 0 / 2 ^ (7 - i % 8) % 2
theorem getD_none (p : List Nat) (i : Nat) (h : p.length ≤ i) : p.getD i 0 = 0 := by rw [List.getD_eq_getElem?_getD, List.getElem?_eq_none h]; rfl
theorem bit_f (p : List Nat) (hp : Lt 256 p) (i : Nat) (h : i < 100000000000000) : wicketref02_bit.f (toI p) (i : Int) = some ((bitN p i : Nat) : Int) := by
  have e1 : wrap64 (Int.tdiv (i : Int) 8) = ((i / 8 : Nat) : Int) := by rw [Int.tdiv_eq_ediv_of_nonneg (by omega), w64 (by omega) (by omega)]; rfl
  have e2 : IntKind.u64.wrap (wrap64 (7 - Int.tmod (i : Int) 8)) = ((7 - i % 8 : Nat) : Int) := by
    rw [Int.tmod_eq_emod_of_nonneg (by omega), w64 (by omega) (by omega), show (7 - (i : Int) % 8) = ((7 - i % 8 : Nat) : Int) by omega, u64_small _ (by omega)]
  have e3 : ∀ x : Nat, shr .u8 (x : Int) ((7 - i % 8 : Nat) : Int) = ((x / 2 ^ (7 - i % 8) : Nat) : Int) := fun x => by
    unfold shr
    rw [Int.toNat_natCast, Nat.min_eq_left (show 7 - i % 8 ≤ IntKind.u8.bits from Nat.le_trans (Nat.sub_le _ _) (by decide))]
    simp
  unfold wicketref02_bit.f
  simp only [e1, e2, rd_toI, e3]
  by_cases hl : p.length ≤ i / 8
  · rw [if_pos (by rw [toI_len]; omega)]
    unfold bitN
    rw [getD_none p _ hl]
    simp
  · have hx : p.getD (i / 8) 0 < 256 := hp _ (by rw [List.getD_eq_getElem?_getD, List.getElem?_eq_getElem (by omega)]; exact List.getElem_mem _)
    have hle : p.getD (i / 8) 0 / 2 ^ (7 - i % 8) ≤ p.getD (i / 8) 0 := Nat.div_le_self _ _
    have c1 : ¬ (((i / 8 : Nat) : Int) ≥ ((toI p).length : Int)) := by rw [toI_len]; omega
    have c2 : (0 : Int) ≤ ((i / 8 : Nat) : Int) := by omega
    have c3 : ((i / 8 : Nat) : Int) < ((toI p).length : Int) := by rw [toI_len]; omega
    have c4 : (0 : Int) ≤ ((7 - i % 8 : Nat) : Int) := by omega
    rw [if_neg c1, if_pos c2, if_pos c3, if_pos c4, w64n _ (by omega)]
    rfl
theorem bitN_lt (p : List Nat) (i : Nat) : bitN p i < 2 := Nat.mod_lt _ (by decide)
theorem l1_step (p : List Nat) (hp : Lt 256 p) (out : List Int) (i n j : Nat) (hi : i < 10000000000000) (hn : n < 64) (hj : j < 6) (k : Nat) :
    wicketref02_Base64.l1 (k + 1) (toI p) out (i : Int) (n : Int) (j : Int) = wicketref02_Base64.l1 k (toI p) out (i : Int) ((2 * n + bitN p (i + j) : Nat) : Int) ((j + 1 : Nat) : Int) := by
  have hb := bitN_lt p (i + j)
  have e1 : wrap64 ((i : Int) + (j : Int)) = ((i + j : Nat) : Int) := by rw [w64 (by omega) (by omega)]; rfl
  have e2 : wrap64 ((j : Int) + 1) = ((j + 1 : Nat) : Int) := by rw [w64 (by omega) (by omega)]; rfl
  have e0 : wrap64 (2 * (n : Int)) = ((2 * n : Nat) : Int) := w64n (2 * n) (by omega)
  have e3 : wrap64 (wrap64 (2 * (n : Int)) + ((bitN p (i + j) : Nat) : Int)) = ((2 * n + bitN p (i + j) : Nat) : Int) := by rw [e0]; exact w64n (2 * n + bitN p (i + j)) (by omega)
  have e4 := bit_f p hp (i + j) (by omega)
  have e5 : (j : Int) < 6 := by omega
  simp only [wicketref02_Base64.l1]
  rw [if_pos e5, e1, e4, Option.bind_some, e2, e3]
/-- Six bits from a place on. -/
def sixAt (p : List Nat) (i : Nat) : Nat := 2 * (2 * (2 * (2 * (2 * (2 * 0 + bitN p (i + 0)) + bitN p (i + 1)) + bitN p (i + 2)) + bitN p (i + 3)) + bitN p (i + 4)) + bitN p (i + 5)
theorem sixAt_lt (p : List Nat) (i : Nat) : sixAt p i < 64 := by
  unfold sixAt
  have h0 := bitN_lt p (i + 0)
  have h1 := bitN_lt p (i + 1)
  have h2 := bitN_lt p (i + 2)
  have h3 := bitN_lt p (i + 3)
  have h4 := bitN_lt p (i + 4)
  have h5 := bitN_lt p (i + 5)
  omega
theorem l1_end (p : List Nat) (out : List Nat) (i n : Nat) (hi : i < 10000000000000) (hn : n < 64) (ho : out.length ≤ i) (k : Nat) :
    wicketref02_Base64.l1 (k + 1) (toI p) (toI out) (i : Int) (n : Int) 6 = wicketref02_Base64.l0 k (toI p) (toI (out ++ [al64.getD n 0])) ((i + 6 : Nat) : Int) := by
  have e1 : wrap64 ((i : Int) + 6) = ((i + 6 : Nat) : Int) := by rw [w64 (by omega) (by omega)]; rfl
  have e2 := letter_f n hn
  have e3 : (toI out).length < 140737488355328 := by rw [toI_len]; omega
  simp only [wicketref02_Base64.l1]
  rw [if_neg (by decide), e2, Option.bind_some, if_pos e3, e1, toI_push]
theorem rb64_step (p : List Nat) (hp : Lt 256 p) (out : List Nat) (i : Nat) (r : ByteArray) (hi : i < 8 * p.length) (hl : p.length ≤ 1000000000000) (ho : out.length ≤ i)
    (h : Ev (fun k => wicketref02_Base64.l0 k (toI p) (toI (out ++ [al64.getD (sixAt p i) 0])) ((i + 6 : Nat) : Int)) r) : Ev (fun k => wicketref02_Base64.l0 k (toI p) (toI out) (i : Int)) r := by
  have hs := sixAt_lt p i
  have h0 := bitN_lt p (i + 0)
  have h1 := bitN_lt p (i + 1)
  have h2 := bitN_lt p (i + 2)
  have h3 := bitN_lt p (i + 3)
  have h4 := bitN_lt p (i + 4)
  have hb : i < 10000000000000 := by omega
  have hc : (i : Int) < wrap64 (8 * ((toI p).length : Int)) := by rw [toI_len, w64 (by omega) (by omega)]; omega
  refine Ev.step (f := fun k => wicketref02_Base64.l1 k (toI p) (toI out) (i : Int) ((0 : Nat) : Int) ((0 : Nat) : Int)) (fun k => ?_) ?_
  · simp only [wicketref02_Base64.l0]
    rw [if_pos hc]
    rfl
  obtain ⟨n1, e1⟩ : ∃ n, n = 2 * 0 + bitN p (i + 0) := ⟨_, rfl⟩
  obtain ⟨n2, e2⟩ : ∃ n, n = 2 * n1 + bitN p (i + 1) := ⟨_, rfl⟩
  obtain ⟨n3, e3⟩ : ∃ n, n = 2 * n2 + bitN p (i + 2) := ⟨_, rfl⟩
  obtain ⟨n4, e4⟩ : ∃ n, n = 2 * n3 + bitN p (i + 3) := ⟨_, rfl⟩
  obtain ⟨n5, e5⟩ : ∃ n, n = 2 * n4 + bitN p (i + 4) := ⟨_, rfl⟩
  obtain ⟨n6, e6⟩ : ∃ n, n = 2 * n5 + bitN p (i + 5) := ⟨_, rfl⟩
  have e7 : n6 = sixAt p i := by rw [e6, e5, e4, e3, e2, e1]; rfl
  have l1 := l1_step p hp (toI out) i 0 0 hb (by omega) (by omega)
  have l2 := l1_step p hp (toI out) i n1 1 hb (by omega) (by omega)
  have l3 := l1_step p hp (toI out) i n2 2 hb (by omega) (by omega)
  have l4 := l1_step p hp (toI out) i n3 3 hb (by omega) (by omega)
  have l5 := l1_step p hp (toI out) i n4 4 hb (by omega) (by omega)
  have l6 := l1_step p hp (toI out) i n5 5 hb (by omega) (by omega)
  rw [← e1] at l1
  rw [← e2] at l2
  rw [← e3] at l3
  rw [← e4] at l4
  rw [← e5] at l5
  rw [← e6, e7] at l6
  exact Ev.step l1 (Ev.step l2 (Ev.step l3 (Ev.step l4 (Ev.step l5 (Ev.step l6 (Ev.step (fun k => l1_end p out i (sixAt p i) hb hs ho k) h))))))
theorem hi6 : ∀ a, a < 256 → 2 * (2 * (2 * (2 * (2 * (2 * 0 + a / 2 ^ 7 % 2) + a / 2 ^ 6 % 2) + a / 2 ^ 5 % 2) + a / 2 ^ 4 % 2) + a / 2 ^ 3 % 2) + a / 2 ^ 2 % 2 = a / 4 := by decide +kernel
theorem lo2 : ∀ a, a < 256 → 2 * (2 * 0 + a / 2 ^ 1 % 2) + a / 2 ^ 0 % 2 = a % 4 := by decide +kernel
theorem hi4 : ∀ a, a < 256 → ∀ n, n < 4 → 2 * (2 * (2 * (2 * n + a / 2 ^ 7 % 2) + a / 2 ^ 6 % 2) + a / 2 ^ 5 % 2) + a / 2 ^ 4 % 2 = n * 16 + a / 16 := by decide +kernel
theorem lo4 : ∀ a, a < 256 → 2 * (2 * (2 * (2 * 0 + a / 2 ^ 3 % 2) + a / 2 ^ 2 % 2) + a / 2 ^ 1 % 2) + a / 2 ^ 0 % 2 = a % 16 := by decide +kernel
theorem hi2 : ∀ a, a < 256 → ∀ n, n < 16 → 2 * (2 * n + a / 2 ^ 7 % 2) + a / 2 ^ 6 % 2 = n * 4 + a / 64 := by decide +kernel
theorem lo6 : ∀ a, a < 256 → 2 * (2 * (2 * (2 * (2 * (2 * 0 + a / 2 ^ 5 % 2) + a / 2 ^ 4 % 2) + a / 2 ^ 3 % 2) + a / 2 ^ 2 % 2) + a / 2 ^ 1 % 2) + a / 2 ^ 0 % 2 = a % 64 := by decide +kernel
theorem bitN_at (p : List Nat) (i q r x : Nat) (h : i = 8 * q + r) (hr : r < 8) (hx : p.getD q 0 = x) : bitN p i = x / 2 ^ (7 - r) % 2 := by
  unfold bitN
  rw [show i / 8 = q by omega, show i % 8 = r by omega, hx]
theorem six0 (p : List Nat) (q a : Nat) (ha : p.getD q 0 = a) (al : a < 256) : sixAt p (8 * q) = a / 4 := by
  unfold sixAt
  rw [bitN_at p _ q 0 a (by omega) (by omega) ha, bitN_at p _ q 1 a (by omega) (by omega) ha, bitN_at p _ q 2 a (by omega) (by omega) ha, bitN_at p _ q 3 a (by omega) (by omega) ha, bitN_at p _ q 4 a (by omega) (by omega) ha, bitN_at p _ q 5 a (by omega) (by omega) ha]
  exact hi6 a al
theorem six1 (p : List Nat) (q a b : Nat) (ha : p.getD q 0 = a) (hb : p.getD (q + 1) 0 = b) (al : a < 256) (bl : b < 256) : sixAt p (8 * q + 6) = a % 4 * 16 + b / 16 := by
  unfold sixAt
  rw [bitN_at p _ q 6 a (by omega) (by omega) ha, bitN_at p _ q 7 a (by omega) (by omega) ha, bitN_at p _ (q + 1) 0 b (by omega) (by omega) hb, bitN_at p _ (q + 1) 1 b (by omega) (by omega) hb, bitN_at p _ (q + 1) 2 b (by omega) (by omega) hb, bitN_at p _ (q + 1) 3 b (by omega) (by omega) hb]
  have h := lo2 a al
  show 2 * (2 * (2 * (2 * (2 * (2 * 0 + a / 2 ^ 1 % 2) + a / 2 ^ 0 % 2) + b / 2 ^ 7 % 2) + b / 2 ^ 6 % 2) + b / 2 ^ 5 % 2) + b / 2 ^ 4 % 2 = _
  rw [h]
  exact hi4 b bl (a % 4) (Nat.mod_lt _ (by decide))
theorem six2 (p : List Nat) (q b c : Nat) (hb : p.getD (q + 1) 0 = b) (hc : p.getD (q + 2) 0 = c) (bl : b < 256) (cl : c < 256) : sixAt p (8 * q + 6 + 6) = b % 16 * 4 + c / 64 := by
  unfold sixAt
  rw [bitN_at p _ (q + 1) 4 b (by omega) (by omega) hb, bitN_at p _ (q + 1) 5 b (by omega) (by omega) hb, bitN_at p _ (q + 1) 6 b (by omega) (by omega) hb, bitN_at p _ (q + 1) 7 b (by omega) (by omega) hb, bitN_at p _ (q + 2) 0 c (by omega) (by omega) hc, bitN_at p _ (q + 2) 1 c (by omega) (by omega) hc]
  have h := lo4 b bl
  show 2 * (2 * (2 * (2 * (2 * (2 * 0 + b / 2 ^ 3 % 2) + b / 2 ^ 2 % 2) + b / 2 ^ 1 % 2) + b / 2 ^ 0 % 2) + c / 2 ^ 7 % 2) + c / 2 ^ 6 % 2 = _
  rw [h]
  exact hi2 c cl (b % 16) (Nat.mod_lt _ (by decide))
theorem six3 (p : List Nat) (q c : Nat) (hc : p.getD (q + 2) 0 = c) (cl : c < 256) : sixAt p (8 * q + 6 + 6 + 6) = c % 64 := by
  unfold sixAt
  rw [bitN_at p _ (q + 2) 2 c (by omega) (by omega) hc, bitN_at p _ (q + 2) 3 c (by omega) (by omega) hc, bitN_at p _ (q + 2) 4 c (by omega) (by omega) hc, bitN_at p _ (q + 2) 5 c (by omega) (by omega) hc, bitN_at p _ (q + 2) 6 c (by omega) (by omega) hc, bitN_at p _ (q + 2) 7 c (by omega) (by omega) hc]
  exact lo6 c cl
theorem rb64_end (p out : List Nat) (i : Nat) (h : 8 * p.length ≤ i) (hl : p.length ≤ 1000000000000) : Ev (fun k => wicketref02_Base64.l0 k (toI p) (toI out) (i : Int)) (strOfNums (toI out)) := by
  have hc : ¬ ((i : Int) < wrap64 (8 * ((toI p).length : Int))) := by rw [toI_len, w64 (by omega) (by omega)]; omega
  refine Ev.step (f := fun _ => some (strOfNums (toI out))) (fun k => ?_) (Ev.now _)
  simp only [wicketref02_Base64.l0]
  rw [if_neg hc]
theorem len_push (out : List Nat) (x i : Nat) (h : out.length ≤ i) : (out ++ [x]).length ≤ i + 6 := by simp; omega
theorem rb64_ev (p : List Nat) (hp : Lt 256 p) (hl : p.length ≤ 1000000000000) : ∀ (d : List Nat) (q : Nat) (out : List Nat), p.drop q = d → out.length ≤ 8 * q →
    Ev (fun k => wicketref02_Base64.l0 k (toI p) (toI out) ((8 * q : Nat) : Int)) (strOfNums (toI (out ++ spell al64 (six d))))
  | [], q, out, hd, ho => by
    have := drop_none hd
    exact Ev.eq (rb64_end p out (8 * q) (by omega) hl) (by simp [six, spell])
  | [a], q, out, hd, ho => by
    obtain ⟨a1, a2, a3⟩ := drop_at hd
    have ax : a < 256 := a2 ▸ hp _ (by rw [List.getD_eq_getElem?_getD, List.getElem?_eq_getElem a1]; exact List.getElem_mem a1)
    have hn := drop_none a3
    have b2 : p.getD (q + 1) 0 = 0 := getD_none p _ hn
    refine rb64_step p hp out (8 * q) _ (by omega) hl ho ?_
    refine rb64_step p hp _ (8 * q + 6) _ (by omega) hl (len_push _ _ _ ho) ?_
    rw [six0 p q a a2 ax, six1 p q a 0 a2 b2 ax (by decide)]
    refine Ev.eq (rb64_end p _ (8 * q + 6 + 6) (by omega) hl) ?_
    simp only [six, spell, List.map_cons, List.map_nil, List.append_assoc, List.cons_append, List.nil_append, List.append_nil]
    rfl
  | [a, b], q, out, hd, ho => by
    obtain ⟨a1, a2, a3⟩ := drop_at hd
    obtain ⟨b1, b2, b3⟩ := drop_at a3
    have ax : a < 256 := a2 ▸ hp _ (by rw [List.getD_eq_getElem?_getD, List.getElem?_eq_getElem a1]; exact List.getElem_mem a1)
    have bx : b < 256 := b2 ▸ hp _ (by rw [List.getD_eq_getElem?_getD, List.getElem?_eq_getElem b1]; exact List.getElem_mem b1)
    have hn := drop_none b3
    have c2 : p.getD (q + 2) 0 = 0 := getD_none p _ hn
    refine rb64_step p hp out (8 * q) _ (by omega) hl ho ?_
    refine rb64_step p hp _ (8 * q + 6) _ (by omega) hl (len_push _ _ _ ho) ?_
    refine rb64_step p hp _ (8 * q + 6 + 6) _ (by omega) hl (len_push _ _ _ (len_push _ _ _ ho)) ?_
    rw [six0 p q a a2 ax, six1 p q a b a2 b2 ax bx, six2 p q b 0 b2 c2 bx (by decide)]
    refine Ev.eq (rb64_end p _ (8 * q + 6 + 6 + 6) (by omega) hl) ?_
    simp only [six, spell, List.map_cons, List.map_nil, List.append_assoc, List.cons_append, List.nil_append, List.append_nil]
    rfl
  | a :: b :: c :: r, q, out, hd, ho => by
    obtain ⟨a1, a2, a3⟩ := drop_at hd
    obtain ⟨b1, b2, b3⟩ := drop_at a3
    obtain ⟨c1, c2, c3⟩ := drop_at b3
    have ax : a < 256 := a2 ▸ hp _ (by rw [List.getD_eq_getElem?_getD, List.getElem?_eq_getElem a1]; exact List.getElem_mem a1)
    have bx : b < 256 := b2 ▸ hp _ (by rw [List.getD_eq_getElem?_getD, List.getElem?_eq_getElem b1]; exact List.getElem_mem b1)
    have cx : c < 256 := c2 ▸ hp _ (by rw [List.getD_eq_getElem?_getD, List.getElem?_eq_getElem c1]; exact List.getElem_mem c1)
    have ho1 := len_push out (al64.getD (a / 4) 0) _ ho
    have ho2 := len_push _ (al64.getD (a % 4 * 16 + b / 16) 0) _ ho1
    have ho3 := len_push _ (al64.getD (b % 16 * 4 + c / 64) 0) _ ho2
    have ho4 := len_push _ (al64.getD (c % 64) 0) _ ho3
    have ih := rb64_ev p hp hl r (q + 3) (out ++ [al64.getD (a / 4) 0] ++ [al64.getD (a % 4 * 16 + b / 16) 0] ++ [al64.getD (b % 16 * 4 + c / 64) 0] ++ [al64.getD (c % 64) 0]) c3 ho4
    refine rb64_step p hp out (8 * q) _ (by omega) hl ho ?_
    rw [six0 p q a a2 ax]
    refine rb64_step p hp _ (8 * q + 6) _ (by omega) hl ho1 ?_
    rw [six1 p q a b a2 b2 ax bx]
    refine rb64_step p hp _ (8 * q + 6 + 6) _ (by omega) hl ho2 ?_
    rw [six2 p q b c b2 c2 bx cx]
    refine rb64_step p hp _ (8 * q + 6 + 6 + 6) _ (by omega) hl ho3 ?_
    rw [six3 p q c c2 cx]
    refine Ev.eq ih ?_
    simp only [six, spell, List.map_cons, List.append_assoc, List.cons_append, List.nil_append, List.append_nil]
theorem rtob64_ev (p : List Nat) (hp : Lt 256 p) (hl : p.length ≤ 1000000000000) : Ev (fun k => wicketref02_Base64.f k (toI p)) (strOfNums (toI (spell al64 (six p)))) := rb64_ev p hp hl p 0 [] (by simp) (by simp)
/-- Bytes as a text. -/
def txt (p : List Nat) : ByteArray := strOfNums (toI p)
theorem tob64_any (p : List Nat) (A : Option Addr) (n c : Nat) (w : World) (hn : n = p.length) (hl : n ≤ 1000000000000) (hc : n ≤ c) (hp : Lt 256 p) (hC : C8 w A p.length p) :
    Calls Try.prog 45 #[.slice A n c] w fun e w' => e = .returned (.string (txt (spell al64 (six p)))) ∧ Below w.heap.size w w' := by
  subst hn
  obtain ⟨k, hk⟩ := Ev.rounds (tob64_ev p hp hl)
  have h := digest_Base64.calls k A c (toI p) _ w (by rw [toI_len]; exact hC) (by rw [toI_len]; exact hc) hk
  rw [toI_len] at h
  exact h
theorem sN_txt (p : List Nat) (hp : Lt 256 p) : sN (txt p) = p := by
  unfold sN txt strOfNums toI
  simp only [List.map_map]
  conv => rhs; rw [← List.map_id p]
  refine List.map_congr_left fun x hx => ?_
  have := hp x hx
  simp
  omega
theorem txt_sN (s : ByteArray) : txt (sN s) = s := by
  obtain ⟨⟨l⟩⟩ := s
  unfold sN txt strOfNums toI
  simp only [List.map_map]
  congr 2
  conv => rhs; rw [← List.map_id l]
  refine List.map_congr_left fun x hx => ?_
  simp
theorem txt_size (p : List Nat) : (txt p).size = p.length := by
  unfold txt strOfNums toI
  show List.length _ = _
  simp
theorem spell_len (al v : List Nat) : (spell al v).length = v.length := List.length_map _
theorem spell64_lt (v : List Nat) : Lt 256 (spell al64 v) := fun x hx => by
  obtain ⟨n, hn, rfl⟩ := List.mem_map.1 hx
  rw [List.getD_eq_getElem?_getD]
  rcases Nat.lt_or_ge n al64.length with h | h
  · rw [List.getElem?_eq_getElem h]
    exact (show ∀ x ∈ al64, x < 256 by decide) _ (List.getElem_mem h)
  · rw [List.getElem?_eq_none h]
    decide
theorem rtob64_any (p : List Nat) (A : Option Addr) (n c : Nat) (w : World) (hn : n = p.length) (hl : n ≤ 1000000000000) (hc : n ≤ c) (hp : Lt 256 p) (hC : C8 w A p.length p) :
    Calls Try.prog 51 #[.slice A n c] w fun e w' => e = .returned (.string (txt (spell al64 (six p)))) ∧ Below w.heap.size w w' := by
  subst hn
  obtain ⟨k, hk⟩ := Ev.rounds (rtob64_ev p hp hl)
  have h := wicketref02_Base64.calls k A c (toI p) _ w (by rw [toI_len]; exact hC) (by rw [toI_len]; exact hc) hk
  rw [toI_len] at h
  exact h
end Go.Proofs.Ytaeipffenlkjpaa.Sha
