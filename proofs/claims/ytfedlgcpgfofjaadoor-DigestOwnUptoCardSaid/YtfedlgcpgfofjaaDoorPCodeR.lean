/-
  The reference's codes are the plain law's.
  What the reference reads is the plain law's.
-/
import Derived.Test.YtfedlgcpgfofjaaDoorPCode
import Derived.Test.YtfedlgcpgfofjaaDoorPAllx2
import Derived.Test.YtfedlgcpgfofjaaDoorPAllx5
import Derived.Test.YtfedlgcpgfofjaaDoorPAllx6
namespace Go.Proofs.YtfedlgcpgfofjaaDoor.Sha
open Go.RowKit Go.Proofs.YtfedlgcpgfofjaaDoorW.PrintWords Go.Proofs.YtfedlgcpgfofjaaDoor.PAll Go.Proofs.YtfedlgcpgfofjaaDoor.Plain
set_option linter.unusedVariables false
set_option linter.unusedSimpArgs false
theorem digit_all : ((List.range 16).all fun n => wicketref02_digit.f ((n : Nat) : Int) == some ((al16.getD n 0 : Nat) : Int)) = true := by kernel_rfl
theorem letter_all : ((List.range 64).all fun n => wicketref02_letter.f ((n : Nat) : Int) == some ((al64.getD n 0 : Nat) : Int)) = true := by kernel_rfl
theorem digit_f (n : Nat) (h : n < 16) : wicketref02_digit.f (n : Int) = some ((al16.getD n 0 : Nat) : Int) := by
  have := List.all_eq_true.1 digit_all n (List.mem_range.2 h)
  exact eq_of_beq this
theorem letter_f (n : Nat) (h : n < 64) : wicketref02_letter.f (n : Int) = some ((al64.getD n 0 : Nat) : Int) := by
  have := List.all_eq_true.1 letter_all n (List.mem_range.2 h)
  exact eq_of_beq this
theorem w64n (x : Nat) (h : x < 1000000000000000) : wrap64 (x : Int) = (x : Int) := w64 (by omega) (by omega)
theorem rhex_step (p : List Nat) (out : List Nat) (i x : Nat) (h : i < p.length) (hx : p.getD i 0 = x) (hxl : x < 256) (hl : p.length ≤ 1000000000000) (ho : out.length ≤ 2 * i) (k : Nat) :
    wicketref02_Hex.l0 (k + 1) (toI p) (toI out) (i : Int) = wicketref02_Hex.l0 k (toI p) (toI (out ++ [al16.getD (x / 16) 0, al16.getD (x % 16) 0])) ((i + 1 : Nat) : Int) := by
  have i1 : (i : Int) < ((toI p).length : Int) := by rw [toI_len]; omega
  have i2 : (0 : Int) ≤ (i : Int) := by omega
  have i3 : (toI out).length < 140737488355328 := by rw [toI_len]; omega
  have i4 : ∀ z : Int, (toI out ++ [z]).length < 140737488355328 := fun z => by rw [List.length_append, toI_len]; simp; omega
  have x1 : x / 16 < 16 := by omega
  have x2 : x % 16 < 16 := by omega
  have d1 := digit_f (x / 16) x1
  have d2 := digit_f (x % 16) x2
  have e1 := w64n (i + 1) (by omega)
  have e2 := w64n x (by omega)
  have e5 := w64n (x / 16) (Nat.lt_trans x1 (by decide))
  have e3 : Int.tdiv (x : Int) 16 = ((x / 16 : Nat) : Int) := rfl
  have e4 : Int.tmod (x : Int) 16 = ((x % 16 : Nat) : Int) := rfl
  rw [show ((i + 1 : Nat) : Int) = (i : Int) + 1 from rfl] at e1
  simp only [wicketref02_Hex.l0, rd_toI, hx, e1, e2, e3, e4, e5, d1, d2, Option.bind_some]
  rw [if_pos i1, if_pos i2, if_pos i3, if_pos (i4 _)]
  congr 1
  simp [toI]
theorem rhex_ev (p : List Nat) (hp : Lt 256 p) (hl : p.length ≤ 1000000000000) : ∀ (d : List Nat) (i : Nat) (out : List Nat), p.drop i = d → out.length ≤ 2 * i →
    Ev (fun k => wicketref02_Hex.l0 k (toI p) (toI out) (i : Int)) (strOfNums (toI (out ++ spell al16 (four d))))
  | [], i, out, hd, ho => by
    have := drop_none hd
    refine Ev.step (f := fun _ => some (strOfNums (toI out))) (fun k => ?_) (Ev.eq (Ev.now _) (by simp [four, spell]))
    simp only [wicketref02_Hex.l0]
    rw [if_neg (by rw [toI_len]; omega)]
  | x :: r, i, out, hd, ho => by
    obtain ⟨a1, a2, a3⟩ := drop_at hd
    have ax : x < 256 := a2 ▸ hp _ (by rw [List.getD_eq_getElem?_getD, List.getElem?_eq_getElem a1]; exact List.getElem_mem a1)
    have ih := rhex_ev p hp hl r (i + 1) (out ++ [al16.getD (x / 16) 0, al16.getD (x % 16) 0]) a3 (by simp; omega)
    exact Ev.eq (Ev.step (fun k => rhex_step p out i x a1 a2 ax hl ho k) ih) (by rw [four_cons]; simp [spell])
theorem rtohex_ev (p : List Nat) (hp : Lt 256 p) (hl : p.length ≤ 1000000000000) : Ev (fun k => wicketref02_Hex.f k (toI p)) (strOfNums (toI (spell al16 (four p)))) := rhex_ev p hp hl p 0 [] (by simp) (by simp)
/-- The bits of bytes. -/
def bitN (p : List Nat) (i : Nat) : Nat := p.getD (i / 8) 0 / 2 ^ (7 - i % 8) % 2
theorem getD_none (p : List Nat) (i : Nat) (h : p.length ≤ i) : p.getD i 0 = 0 := by rw [List.getD_eq_getElem?_getD, List.getElem?_eq_none h]; rfl
theorem bit_f (p : List Nat) (hp : Lt 256 p) (i : Nat) (h : i < 100000000000000) : wicketref02_bit.f (toI p) (i : Int) = some ((bitN p i : Nat) : Int) := by
  have e1 : wrap64 (Int.tdiv (i : Int) 8) = ((i / 8 : Nat) : Int) := by rw [Int.tdiv_eq_ediv_of_nonneg (by omega), w64 (by omega) (by omega)]; rfl
  have e2 : IntKind.u64.wrap (wrap64 (7 - Int.tmod (i : Int) 8)) = ((7 - i % 8 : Nat) : Int) := by
    rw [Int.tmod_eq_emod_of_nonneg (by omega), w64 (by omega) (by omega), show (7 - (i : Int) % 8) = ((7 - i % 8 : Nat) : Int) by omega, u64_small _ (by omega)]
  have e3 : ∀ x : Nat, shr .u8 (x : Int) ((7 - i % 8 : Nat) : Int) = ((x / 2 ^ (7 - i % 8) : Nat) : Int) := fun x => by
    unfold shr
    rw [Int.toNat_natCast, Nat.min_eq_left (show 7 - i % 8 ≤ IntKind.u8.bits from Nat.le_trans (Nat.sub_le _ _) (by decide))]
    simp
  unfold wicketref02_bit.f
  simp only [e1, e2, rd_toI, e3]
  by_cases hl : p.length ≤ i / 8
  · rw [if_pos (by rw [toI_len]; omega)]
    unfold bitN
    rw [getD_none p _ hl]
    simp
  · have hx : p.getD (i / 8) 0 < 256 := hp _ (by rw [List.getD_eq_getElem?_getD, List.getElem?_eq_getElem (by omega)]; exact List.getElem_mem _)
    have hle : p.getD (i / 8) 0 / 2 ^ (7 - i % 8) ≤ p.getD (i / 8) 0 := Nat.div_le_self _ _
    have c1 : ¬ (((i / 8 : Nat) : Int) ≥ ((toI p).length : Int)) := by rw [toI_len]; omega
    have c2 : (0 : Int) ≤ ((i / 8 : Nat) : Int) := by omega
    have c3 : ((i / 8 : Nat) : Int) < ((toI p).length : Int) := by rw [toI_len]; omega
    have c4 : (0 : Int) ≤ ((7 - i % 8 : Nat) : Int) := by omega
    rw [if_neg c1, if_pos c2, if_pos c3, if_pos c4, w64n _ (by omega)]
    rfl
theorem bitN_lt (p : List Nat) (i : Nat) : bitN p i < 2 := Nat.mod_lt _ (by decide)
theorem l1_step (p : List Nat) (hp : Lt 256 p) (out : List Int) (i n j : Nat) (hi : i < 10000000000000) (hn : n < 64) (hj : j < 6) (k : Nat) :
    wicketref02_Base64.l1 (k + 1) (toI p) out (i : Int) (n : Int) (j : Int) = wicketref02_Base64.l1 k (toI p) out (i : Int) ((2 * n + bitN p (i + j) : Nat) : Int) ((j + 1 : Nat) : Int) := by
  have hb := bitN_lt p (i + j)
  have e1 : wrap64 ((i : Int) + (j : Int)) = ((i + j : Nat) : Int) := by rw [w64 (by omega) (by omega)]; rfl
  have e2 : wrap64 ((j : Int) + 1) = ((j + 1 : Nat) : Int) := by rw [w64 (by omega) (by omega)]; rfl
  have e0 : wrap64 (2 * (n : Int)) = ((2 * n : Nat) : Int) := w64n (2 * n) (by omega)
  have e3 : wrap64 (wrap64 (2 * (n : Int)) + ((bitN p (i + j) : Nat) : Int)) = ((2 * n + bitN p (i + j) : Nat) : Int) := by rw [e0]; exact w64n (2 * n + bitN p (i + j)) (by omega)
  have e4 := bit_f p hp (i + j) (by omega)
  have e5 : (j : Int) < 6 := by omega
  simp only [wicketref02_Base64.l1]
  rw [if_pos e5, e1, e4, Option.bind_some, e2, e3]
/-- Six bits from a place on. -/
def sixAt (p : List Nat) (i : Nat) : Nat := 2 * (2 * (2 * (2 * (2 * (2 * 0 + bitN p (i + 0)) + bitN p (i + 1)) + bitN p (i + 2)) + bitN p (i + 3)) + bitN p (i + 4)) + bitN p (i + 5)
theorem sixAt_lt (p : List Nat) (i : Nat) : sixAt p i < 64 := by
  unfold sixAt
  have h0 := bitN_lt p (i + 0)
  have h1 := bitN_lt p (i + 1)
  have h2 := bitN_lt p (i + 2)
  have h3 := bitN_lt p (i + 3)
  have h4 := bitN_lt p (i + 4)
  have h5 := bitN_lt p (i + 5)
  omega
theorem l1_end (p : List Nat) (out : List Nat) (i n : Nat) (hi : i < 10000000000000) (hn : n < 64) (ho : out.length ≤ i) (k : Nat) :
    wicketref02_Base64.l1 (k + 1) (toI p) (toI out) (i : Int) (n : Int) 6 = wicketref02_Base64.l0 k (toI p) (toI (out ++ [al64.getD n 0])) ((i + 6 : Nat) : Int) := by
  have e1 : wrap64 ((i : Int) + 6) = ((i + 6 : Nat) : Int) := by rw [w64 (by omega) (by omega)]; rfl
  have e2 := letter_f n hn
  have e3 : (toI out).length < 140737488355328 := by rw [toI_len]; omega
  simp only [wicketref02_Base64.l1]
  rw [if_neg (by decide), e2, Option.bind_some, if_pos e3, e1, toI_push]
theorem rb64_step (p : List Nat) (hp : Lt 256 p) (out : List Nat) (i : Nat) (r : ByteArray) (hi : i < 8 * p.length) (hl : p.length ≤ 1000000000000) (ho : out.length ≤ i)
    (h : Ev (fun k => wicketref02_Base64.l0 k (toI p) (toI (out ++ [al64.getD (sixAt p i) 0])) ((i + 6 : Nat) : Int)) r) : Ev (fun k => wicketref02_Base64.l0 k (toI p) (toI out) (i : Int)) r := by
  have hs := sixAt_lt p i
  have h0 := bitN_lt p (i + 0)
  have h1 := bitN_lt p (i + 1)
  have h2 := bitN_lt p (i + 2)
  have h3 := bitN_lt p (i + 3)
  have h4 := bitN_lt p (i + 4)
  have hb : i < 10000000000000 := by omega
  have hc : (i : Int) < wrap64 (8 * ((toI p).length : Int)) := by rw [toI_len, w64 (by omega) (by omega)]; omega
  refine Ev.step (f := fun k => wicketref02_Base64.l1 k (toI p) (toI out) (i : Int) ((0 : Nat) : Int) ((0 : Nat) : Int)) (fun k => ?_) ?_
  · simp only [wicketref02_Base64.l0]
    rw [if_pos hc]
    rfl
  obtain ⟨n1, e1⟩ : ∃ n, n = 2 * 0 + bitN p (i + 0) := ⟨_, rfl⟩
  obtain ⟨n2, e2⟩ : ∃ n, n = 2 * n1 + bitN p (i + 1) := ⟨_, rfl⟩
  obtain ⟨n3, e3⟩ : ∃ n, n = 2 * n2 + bitN p (i + 2) := ⟨_, rfl⟩
  obtain ⟨n4, e4⟩ : ∃ n, n = 2 * n3 + bitN p (i + 3) := ⟨_, rfl⟩
  obtain ⟨n5, e5⟩ : ∃ n, n = 2 * n4 + bitN p (i + 4) := ⟨_, rfl⟩
  obtain ⟨n6, e6⟩ : ∃ n, n = 2 * n5 + bitN p (i + 5) := ⟨_, rfl⟩
  have e7 : n6 = sixAt p i := by rw [e6, e5, e4, e3, e2, e1]; rfl
  have l1 := l1_step p hp (toI out) i 0 0 hb (by omega) (by omega)
  have l2 := l1_step p hp (toI out) i n1 1 hb (by omega) (by omega)
  have l3 := l1_step p hp (toI out) i n2 2 hb (by omega) (by omega)
  have l4 := l1_step p hp (toI out) i n3 3 hb (by omega) (by omega)
  have l5 := l1_step p hp (toI out) i n4 4 hb (by omega) (by omega)
  have l6 := l1_step p hp (toI out) i n5 5 hb (by omega) (by omega)
  rw [← e1] at l1
  rw [← e2] at l2
  rw [← e3] at l3
  rw [← e4] at l4
  rw [← e5] at l5
  rw [← e6, e7] at l6
  exact Ev.step l1 (Ev.step l2 (Ev.step l3 (Ev.step l4 (Ev.step l5 (Ev.step l6 (Ev.step (fun k => l1_end p out i (sixAt p i) hb hs ho k) h))))))
theorem hi6 : ∀ a, a < 256 → 2 * (2 * (2 * (2 * (2 * (2 * 0 + a / 2 ^ 7 % 2) + a / 2 ^ 6 % 2) + a / 2 ^ 5 % 2) + a / 2 ^ 4 % 2) + a / 2 ^ 3 % 2) + a / 2 ^ 2 % 2 = a / 4 := by decide +kernel
theorem lo2 : ∀ a, a < 256 → 2 * (2 * 0 + a / 2 ^ 1 % 2) + a / 2 ^ 0 % 2 = a % 4 := by decide +kernel
theorem hi4 : ∀ a, a < 256 → ∀ n, n < 4 → 2 * (2 * (2 * (2 * n + a / 2 ^ 7 % 2) + a / 2 ^ 6 % 2) + a / 2 ^ 5 % 2) + a / 2 ^ 4 % 2 = n * 16 + a / 16 := by decide +kernel
theorem lo4 : ∀ a, a < 256 → 2 * (2 * (2 * (2 * 0 + a / 2 ^ 3 % 2) + a / 2 ^ 2 % 2) + a / 2 ^ 1 % 2) + a / 2 ^ 0 % 2 = a % 16 := by decide +kernel
theorem hi2 : ∀ a, a < 256 → ∀ n, n < 16 → 2 * (2 * n + a / 2 ^ 7 % 2) + a / 2 ^ 6 % 2 = n * 4 + a / 64 := by decide +kernel
theorem lo6 : ∀ a, a < 256 → 2 * (2 * (2 * (2 * (2 * (2 * 0 + a / 2 ^ 5 % 2) + a / 2 ^ 4 % 2) + a / 2 ^ 3 % 2) + a / 2 ^ 2 % 2) + a / 2 ^ 1 % 2) + a / 2 ^ 0 % 2 = a % 64 := by decide +kernel
theorem bitN_at (p : List Nat) (i q r x : Nat) (h : i = 8 * q + r) (hr : r < 8) (hx : p.getD q 0 = x) : bitN p i = x / 2 ^ (7 - r) % 2 := by
  unfold bitN
  rw [show i / 8 = q by omega, show i % 8 = r by omega, hx]
theorem six0 (p : List Nat) (q a : Nat) (ha : p.getD q 0 = a) (al : a < 256) : sixAt p (8 * q) = a / 4 := by
  unfold sixAt
  rw [bitN_at p _ q 0 a (by omega) (by omega) ha, bitN_at p _ q 1 a (by omega) (by omega) ha, bitN_at p _ q 2 a (by omega) (by omega) ha, bitN_at p _ q 3 a (by omega) (by omega) ha, bitN_at p _ q 4 a (by omega) (by omega) ha, bitN_at p _ q 5 a (by omega) (by omega) ha]
  exact hi6 a al
theorem six1 (p : List Nat) (q a b : Nat) (ha : p.getD q 0 = a) (hb : p.getD (q + 1) 0 = b) (al : a < 256) (bl : b < 256) : sixAt p (8 * q + 6) = a % 4 * 16 + b / 16 := by
  unfold sixAt
  rw [bitN_at p _ q 6 a (by omega) (by omega) ha, bitN_at p _ q 7 a (by omega) (by omega) ha, bitN_at p _ (q + 1) 0 b (by omega) (by omega) hb, bitN_at p _ (q + 1) 1 b (by omega) (by omega) hb, bitN_at p _ (q + 1) 2 b (by omega) (by omega) hb, bitN_at p _ (q + 1) 3 b (by omega) (by omega) hb]
  have h := lo2 a al
  show 2 * (2 * (2 * (2 * (2 * (2 * 0 + a / 2 ^ 1 % 2) + a / 2 ^ 0 % 2) + b / 2 ^ 7 % 2) + b / 2 ^ 6 % 2) + b / 2 ^ 5 % 2) + b / 2 ^ 4 % 2 = _
  rw [h]
  exact hi4 b bl (a % 4) (Nat.mod_lt _ (by decide))
theorem six2 (p : List Nat) (q b c : Nat) (hb : p.getD (q + 1) 0 = b) (hc : p.getD (q + 2) 0 = c) (bl : b < 256) (cl : c < 256) : sixAt p (8 * q + 6 + 6) = b % 16 * 4 + c / 64 := by
  unfold sixAt
  rw [bitN_at p _ (q + 1) 4 b (by omega) (by omega) hb, bitN_at p _ (q + 1) 5 b (by omega) (by omega) hb, bitN_at p _ (q + 1) 6 b (by omega) (by omega) hb, bitN_at p _ (q + 1) 7 b (by omega) (by omega) hb, bitN_at p _ (q + 2) 0 c (by omega) (by omega) hc, bitN_at p _ (q + 2) 1 c (by omega) (by omega) hc]
  have h := lo4 b bl
  show 2 * (2 * (2 * (2 * (2 * (2 * 0 + b / 2 ^ 3 % 2) + b / 2 ^ 2 % 2) + b / 2 ^ 1 % 2) + b / 2 ^ 0 % 2) + c / 2 ^ 7 % 2) + c / 2 ^ 6 % 2 = _
  rw [h]
  exact hi2 c cl (b % 16) (Nat.mod_lt _ (by decide))
theorem six3 (p : List Nat) (q c : Nat) (hc : p.getD (q + 2) 0 = c) (cl : c < 256) : sixAt p (8 * q + 6 + 6 + 6) = c % 64 := by
  unfold sixAt
  rw [bitN_at p _ (q + 2) 2 c (by omega) (by omega) hc, bitN_at p _ (q + 2) 3 c (by omega) (by omega) hc, bitN_at p _ (q + 2) 4 c (by omega) (by omega) hc, bitN_at p _ (q + 2) 5 c (by omega) (by omega) hc, bitN_at p _ (q + 2) 6 c (by omega) (by omega) hc, bitN_at p _ (q + 2) 7 c (by omega) (by omega) hc]
  exact lo6 c cl
theorem rb64_end (p out : List Nat) (i : Nat) (h : 8 * p.length ≤ i) (hl : p.length ≤ 1000000000000) : Ev (fun k => wicketref02_Base64.l0 k (toI p) (toI out) (i : Int)) (strOfNums (toI out)) := by
  have hc : ¬ ((i : Int) < wrap64 (8 * ((toI p).length : Int))) := by rw [toI_len, w64 (by omega) (by omega)]; omega
  refine Ev.step (f := fun _ => some (strOfNums (toI out))) (fun k => ?_) (Ev.now _)
  simp only [wicketref02_Base64.l0]
  rw [if_neg hc]
theorem len_push (out : List Nat) (x i : Nat) (h : out.length ≤ i) : (out ++ [x]).length ≤ i + 6 := by simp; omega
theorem rb64_ev (p : List Nat) (hp : Lt 256 p) (hl : p.length ≤ 1000000000000) : ∀ (d : List Nat) (q : Nat) (out : List Nat), p.drop q = d → out.length ≤ 8 * q →
    Ev (fun k => wicketref02_Base64.l0 k (toI p) (toI out) ((8 * q : Nat) : Int)) (strOfNums (toI (out ++ spell al64 (six d))))
  | [], q, out, hd, ho => by
    have := drop_none hd
    exact Ev.eq (rb64_end p out (8 * q) (by omega) hl) (by simp [six, spell])
  | [a], q, out, hd, ho => by
    obtain ⟨a1, a2, a3⟩ := drop_at hd
    have ax : a < 256 := a2 ▸ hp _ (by rw [List.getD_eq_getElem?_getD, List.getElem?_eq_getElem a1]; exact List.getElem_mem a1)
    have hn := drop_none a3
    have b2 : p.getD (q + 1) 0 = 0 := getD_none p _ hn
    refine rb64_step p hp out (8 * q) _ (by omega) hl ho ?_
    refine rb64_step p hp _ (8 * q + 6) _ (by omega) hl (len_push _ _ _ ho) ?_
    rw [six0 p q a a2 ax, six1 p q a 0 a2 b2 ax (by decide)]
    refine Ev.eq (rb64_end p _ (8 * q + 6 + 6) (by omega) hl) ?_
    simp only [six, spell, List.map_cons, List.map_nil, List.append_assoc, List.cons_append, List.nil_append, List.append_nil]
    rfl
  | [a, b], q, out, hd, ho => by
    obtain ⟨a1, a2, a3⟩ := drop_at hd
    obtain ⟨b1, b2, b3⟩ := drop_at a3
    have ax : a < 256 := a2 ▸ hp _ (by rw [List.getD_eq_getElem?_getD, List.getElem?_eq_getElem a1]; exact List.getElem_mem a1)
    have bx : b < 256 := b2 ▸ hp _ (by rw [List.getD_eq_getElem?_getD, List.getElem?_eq_getElem b1]; exact List.getElem_mem b1)
    have hn := drop_none b3
    have c2 : p.getD (q + 2) 0 = 0 := getD_none p _ hn
    refine rb64_step p hp out (8 * q) _ (by omega) hl ho ?_
    refine rb64_step p hp _ (8 * q + 6) _ (by omega) hl (len_push _ _ _ ho) ?_
    refine rb64_step p hp _ (8 * q + 6 + 6) _ (by omega) hl (len_push _ _ _ (len_push _ _ _ ho)) ?_
    rw [six0 p q a a2 ax, six1 p q a b a2 b2 ax bx, six2 p q b 0 b2 c2 bx (by decide)]
    refine Ev.eq (rb64_end p _ (8 * q + 6 + 6 + 6) (by omega) hl) ?_
    simp only [six, spell, List.map_cons, List.map_nil, List.append_assoc, List.cons_append, List.nil_append, List.append_nil]
    rfl
  | a :: b :: c :: r, q, out, hd, ho => by
    obtain ⟨a1, a2, a3⟩ := drop_at hd
    obtain ⟨b1, b2, b3⟩ := drop_at a3
    obtain ⟨c1, c2, c3⟩ := drop_at b3
    have ax : a < 256 := a2 ▸ hp _ (by rw [List.getD_eq_getElem?_getD, List.getElem?_eq_getElem a1]; exact List.getElem_mem a1)
    have bx : b < 256 := b2 ▸ hp _ (by rw [List.getD_eq_getElem?_getD, List.getElem?_eq_getElem b1]; exact List.getElem_mem b1)
    have cx : c < 256 := c2 ▸ hp _ (by rw [List.getD_eq_getElem?_getD, List.getElem?_eq_getElem c1]; exact List.getElem_mem c1)
    have ho1 := len_push out (al64.getD (a / 4) 0) _ ho
    have ho2 := len_push _ (al64.getD (a % 4 * 16 + b / 16) 0) _ ho1
    have ho3 := len_push _ (al64.getD (b % 16 * 4 + c / 64) 0) _ ho2
    have ho4 := len_push _ (al64.getD (c % 64) 0) _ ho3
    have ih := rb64_ev p hp hl r (q + 3) (out ++ [al64.getD (a / 4) 0] ++ [al64.getD (a % 4 * 16 + b / 16) 0] ++ [al64.getD (b % 16 * 4 + c / 64) 0] ++ [al64.getD (c % 64) 0]) c3 ho4
    refine rb64_step p hp out (8 * q) _ (by omega) hl ho ?_
    rw [six0 p q a a2 ax]
    refine rb64_step p hp _ (8 * q + 6) _ (by omega) hl ho1 ?_
    rw [six1 p q a b a2 b2 ax bx]
    refine rb64_step p hp _ (8 * q + 6 + 6) _ (by omega) hl ho2 ?_
    rw [six2 p q b c b2 c2 bx cx]
    refine rb64_step p hp _ (8 * q + 6 + 6 + 6) _ (by omega) hl ho3 ?_
    rw [six3 p q c c2 cx]
    refine Ev.eq ih ?_
    simp only [six, spell, List.map_cons, List.append_assoc, List.cons_append, List.nil_append, List.append_nil]
theorem rtob64_ev (p : List Nat) (hp : Lt 256 p) (hl : p.length ≤ 1000000000000) : Ev (fun k => wicketref02_Base64.f k (toI p)) (strOfNums (toI (spell al64 (six p)))) := rb64_ev p hp hl p 0 [] (by simp) (by simp)
end Go.Proofs.YtfedlgcpgfofjaaDoor.Sha
namespace Go.Proofs.YtfedlgcpgfofjaaDoor.Sha
open Go.RowKit Go.Proofs.YtfedlgcpgfofjaaDoorW.PrintWords Go.Proofs.YtfedlgcpgfofjaaDoor.PAll Go.Proofs.YtfedlgcpgfofjaaDoor.Plain
set_option linter.unusedVariables false
set_option linter.unusedSimpArgs false
theorem value64_ev (c : Nat) : ∀ (d : List Nat) (i : Nat), al64.drop i = d → Ev (fun k => wicketref02_value.l0 k (c : Int) 64 false (i : Int)) (vat d c i)
  | [], i, hd => by
    have h := drop_none hd
    have h2 : ¬ ((i : Int) < 64) := by have : al64.length = 64 := rfl; omega
    refine Ev.step (f := fun _ => some (-1)) (fun k => ?_) (Ev.eq (Ev.now _) (by simp [vat]))
    simp only [wicketref02_value.l0]
    rw [if_neg h2]
  | x :: d, i, hd => by
    obtain ⟨h1, h2, h3⟩ := drop_at hd
    have hl : i < 64 := h1
    have h4 : ((i : Int) < 64) := by omega
    have hf := letter_f i hl
    rw [h2] at hf
    rw [vat_cons]
    by_cases hc : x = c
    · refine Ev.step (f := fun _ => some (i : Int)) (fun k => ?_) (Ev.eq (Ev.now _) (by rw [if_pos hc]))
      simp only [wicketref02_value.l0]
      rw [if_pos h4, if_neg (by decide), hf, Option.bind_some, if_pos (by rw [hc])]
    · have e1 := w64n (i + 1) (by omega)
      have hne : ¬ ((x : Int) = (c : Int)) := by omega
      refine Ev.eq (Ev.step (fun k => ?_) (value64_ev c d (i + 1) h3)) (by rw [if_neg hc])
      simp only [wicketref02_value.l0]
      rw [if_pos h4, if_neg (by decide), hf, Option.bind_some, if_neg hne]
      exact congrArg (fun z => wicketref02_value.l0 k (c : Int) 64 false z) e1
theorem value16_ev (c : Nat) : ∀ (d : List Nat) (i : Nat), al16.drop i = d → Ev (fun k => wicketref02_value.l0 k (c : Int) 16 true (i : Int)) (vat d c i)
  | [], i, hd => by
    have h := drop_none hd
    have h2 : ¬ ((i : Int) < 16) := by have : al16.length = 16 := rfl; omega
    refine Ev.step (f := fun _ => some (-1)) (fun k => ?_) (Ev.eq (Ev.now _) (by simp [vat]))
    simp only [wicketref02_value.l0]
    rw [if_neg h2]
  | x :: d, i, hd => by
    obtain ⟨h1, h2, h3⟩ := drop_at hd
    have hl : i < 16 := h1
    have h4 : ((i : Int) < 16) := by omega
    have hf := digit_f i hl
    rw [h2] at hf
    rw [vat_cons]
    by_cases hc : x = c
    · refine Ev.step (f := fun _ => some (i : Int)) (fun k => ?_) (Ev.eq (Ev.now _) (by rw [if_pos hc]))
      simp only [wicketref02_value.l0]
      rw [if_pos h4, if_pos trivial, hf, Option.bind_some, if_pos (by rw [hc])]
    · have e1 := w64n (i + 1) (by omega)
      have hne : ¬ ((x : Int) = (c : Int)) := by omega
      refine Ev.eq (Ev.step (fun k => ?_) (value16_ev c d (i + 1) h3)) (by rw [if_neg hc])
      simp only [wicketref02_value.l0]
      rw [if_pos h4, if_pos trivial, hf, Option.bind_some, if_neg hne]
      exact congrArg (fun z => wicketref02_value.l0 k (c : Int) 16 true z) e1
theorem rl1_step (s : ByteArray) (hex : Bool) (wd o : Int) (B : List Nat) (i n j : Nat) (hB : B.length < 1000000) (hn : n < 64) (hj : j < 8) (k : Nat) :
    wicketref02_read.l1 (k + 1) s hex wd o (toI B) (i : Int) (n : Int) (j : Int) = wicketref02_read.l1 k s hex wd o (toI (B ++ [n / 2 ^ j % 2])) (i : Int) (n : Int) ((j : Int) - 1) := by
  have c1 : (j : Int) ≥ 0 := by omega
  have c2 : (toI B).length < 17592186044416 := by rw [toI_len]; omega
  have e1 : wrap64 ((j : Int) - 1) = (j : Int) - 1 := w64 (by omega) (by omega)
  have e2 := u64_small j (by omega)
  have e3 : shr .i64 (n : Int) (j : Int) = ((n / 2 ^ j : Nat) : Int) := by rw [shr_nat _ _ (by omega)]; simp
  have e4 : Int.tmod ((n / 2 ^ j : Nat) : Int) 2 = ((n / 2 ^ j % 2 : Nat) : Int) := rfl
  simp only [wicketref02_read.l1]
  rw [if_pos c1, e2, if_pos c1, if_pos c2, e3, e4, e1, toI_push]
theorem rl1_end (s : ByteArray) (hex : Bool) (wd o : Int) (B : List Nat) (i n : Nat) (hi : i < 1000000) (k : Nat) :
    wicketref02_read.l1 (k + 1) s hex wd o (toI B) (i : Int) (n : Int) (-1) = wicketref02_read.l0 k s hex wd o (toI B) ((i + 1 : Nat) : Int) := by
  have e1 := w64n (i + 1) (by omega)
  simp only [wicketref02_read.l1]
  rw [if_neg (by decide)]
  exact congrArg (fun z => wicketref02_read.l0 k s hex wd o (toI B) z) e1
def bw6 (n : Nat) : List Nat := [n / 2 ^ 5 % 2, n / 2 ^ 4 % 2, n / 2 ^ 3 % 2, n / 2 ^ 2 % 2, n / 2 ^ 1 % 2, n / 2 ^ 0 % 2]
def bw4 (n : Nat) : List Nat := [n / 2 ^ 3 % 2, n / 2 ^ 2 % 2, n / 2 ^ 1 % 2, n / 2 ^ 0 % 2]
theorem len1 (B : List Nat) (x m : Nat) (h : B.length < m) : (B ++ [x]).length < m + 1 := by simp; omega
theorem push6 (s : ByteArray) (wd o : Int) (B : List Nat) (i n : Nat) (r : List Int × Int × Int) (hB : B.length < 900000) (hn : n < 64) (hi : i < 1000000)
    (h : Ev (fun k => wicketref02_read.l0 k s false wd o (toI (B ++ bw6 n)) ((i + 1 : Nat) : Int)) r) : Ev (fun k => wicketref02_read.l1 k s false wd o (toI B) (i : Int) (n : Int) 5) r := by
  have b1 := len1 B (n / 2 ^ 5 % 2) _ hB
  have b2 := len1 _ (n / 2 ^ 4 % 2) _ b1
  have b3 := len1 _ (n / 2 ^ 3 % 2) _ b2
  have b4 := len1 _ (n / 2 ^ 2 % 2) _ b3
  have b5 := len1 _ (n / 2 ^ 1 % 2) _ b4
  have l1 := rl1_step s false wd o B i n 5 (Nat.lt_trans hB (by decide)) hn (by decide)
  have l2 := rl1_step s false wd o _ i n 4 (Nat.lt_trans b1 (by decide)) hn (by decide)
  have l3 := rl1_step s false wd o _ i n 3 (Nat.lt_trans b2 (by decide)) hn (by decide)
  have l4 := rl1_step s false wd o _ i n 2 (Nat.lt_trans b3 (by decide)) hn (by decide)
  have l5 := rl1_step s false wd o _ i n 1 (Nat.lt_trans b4 (by decide)) hn (by decide)
  have l6 := rl1_step s false wd o _ i n 0 (Nat.lt_trans b5 (by decide)) hn (by decide)
  refine Ev.step l1 (Ev.step l2 (Ev.step l3 (Ev.step l4 (Ev.step l5 (Ev.step l6 (Ev.step (fun k => rl1_end s false wd o _ i n hi k) ?_))))))
  simp only [List.append_assoc, List.cons_append, List.nil_append]
  exact h
theorem push4b (s : ByteArray) (wd o : Int) (B : List Nat) (i n : Nat) (r : List Int × Int × Int) (hB : B.length < 900000) (hn : n < 64) (hi : i < 1000000)
    (h : Ev (fun k => wicketref02_read.l0 k s true wd o (toI (B ++ bw4 n)) ((i + 1 : Nat) : Int)) r) : Ev (fun k => wicketref02_read.l1 k s true wd o (toI B) (i : Int) (n : Int) 3) r := by
  have b3 := len1 B (n / 2 ^ 3 % 2) _ hB
  have b4 := len1 _ (n / 2 ^ 2 % 2) _ b3
  have b5 := len1 _ (n / 2 ^ 1 % 2) _ b4
  have l3 := rl1_step s true wd o _ i n 3 (Nat.lt_trans hB (by decide)) hn (by decide)
  have l4 := rl1_step s true wd o _ i n 2 (Nat.lt_trans b3 (by decide)) hn (by decide)
  have l5 := rl1_step s true wd o _ i n 1 (Nat.lt_trans b4 (by decide)) hn (by decide)
  have l6 := rl1_step s true wd o _ i n 0 (Nat.lt_trans b5 (by decide)) hn (by decide)
  refine Ev.step l3 (Ev.step l4 (Ev.step l5 (Ev.step l6 (Ev.step (fun k => rl1_end s true wd o _ i n hi k) ?_))))
  simp only [List.append_assoc, List.cons_append, List.nil_append]
  exact h
theorem valt (al : List Nat) (x : Nat) (h : x ∈ al) : value al x < al.length := List.idxOf_lt_length_iff.2 h
theorem scan64 (s : ByteArray) (hs : s.size ≤ 65536) (r : List Int × Int × Int) : ∀ (d : List Nat) (i : Nat) (B : List Nat), (sN s).drop i = d → B.length ≤ 6 * i →
    (bad al64 d i = none → Ev (fun k => wicketref02_read.l0 k s false 6 64 (toI (B ++ (d.map (value al64)).flatMap bw6)) (s.size : Int)) r) →
    Ev (fun k => wicketref02_read.l0 k s false 6 64 (toI B) (i : Int)) (match bad al64 d i with | some j => (([] : List Int), 20, (j : Int)) | none => r)
  | [], i, B, hd, hB, h => by
    have h1 := drop_none hd
    rw [sN_len] at h1
    have h2 := h rfl
    simp only [List.map_nil, List.flatMap_nil, List.append_nil] at h2
    obtain ⟨K, hK⟩ := h2
    refine ⟨K + 1, fun k hk => ?_⟩
    have h3 := hK k (by omega)
    obtain ⟨m, rfl⟩ : ∃ m, k = m + 1 := ⟨k - 1, by omega⟩
    have c1 : ¬ ((i : Int) < (s.size : Int)) := by omega
    have c2 : ¬ ((s.size : Int) < (s.size : Int)) := by omega
    simp only [wicketref02_read.l0] at h3 ⊢
    rw [if_neg c2] at h3
    rw [if_neg c1]
    exact h3
  | x :: d, i, B, hd, hB, h => by
    obtain ⟨h1, h2, h3⟩ := drop_at hd
    rw [sN_len] at h1
    have hx := bt_sN s i h1
    rw [h2] at hx
    have hp := value64_ev x al64 0 (by simp)
    have c1 : (i : Int) < (s.size : Int) := by omega
    have c2 : (0 : Int) ≤ (i : Int) := by omega
    have e6 : wrap64 (6 - 1) = 5 := by rw [w64 (by decide) (by decide)]; rfl
    refine Ev.step (f := fun k => (wicketref02_value.f k (x : Int) 64 false).bind fun t200 => (if t200 < 0 then (some (([] : List Int), 20, (i : Int))) else (wicketref02_read.l1 k s false 6 64 (toI B) (i : Int) t200 5))) (fun k => ?_) ?_
    · simp only [wicketref02_read.l0]
      rw [if_pos c1, if_pos c2, hx, e6]
    by_cases hc : x ∈ al64
    · have hv : vat al64 x 0 = ((value al64 x : Nat) : Int) := by unfold vat; rw [if_pos hc, Nat.zero_add]
      have hvl : value al64 x < 64 := valt al64 x hc
      have hv0 : ¬ (((value al64 x : Nat) : Int) < 0) := by omega
      have hB2 : (B ++ bw6 (value al64 x)).length ≤ 6 * (i + 1) := by rw [List.length_append]; show B.length + 6 ≤ _; omega
      rw [hv] at hp
      rw [bad, if_pos hc] at h
      rw [bad, if_pos hc]
      have ih := scan64 s hs r d (i + 1) (B ++ bw6 (value al64 x)) h3 hB2 (fun hn => by
        have := h hn
        simp only [List.map_cons, List.flatMap_cons] at this
        rw [List.append_assoc]
        exact this)
      exact Ev.bind hp (Ev.neg hv0 (push6 s 6 64 B i (value al64 x) _ (by omega) hvl (by omega) ih))
    · have hv : vat al64 x 0 = -1 := by unfold vat; rw [if_neg hc]
      rw [hv] at hp
      rw [bad, if_neg hc]
      exact Ev.bind hp (Ev.pos (by decide) (Ev.now _))
theorem scan16 (s : ByteArray) (hs : s.size ≤ 65536) (r : List Int × Int × Int) : ∀ (d : List Nat) (i : Nat) (B : List Nat), (sN s).drop i = d → B.length ≤ 6 * i →
    (bad al16 d i = none → Ev (fun k => wicketref02_read.l0 k s true 4 16 (toI (B ++ (d.map (value al16)).flatMap bw4)) (s.size : Int)) r) →
    Ev (fun k => wicketref02_read.l0 k s true 4 16 (toI B) (i : Int)) (match bad al16 d i with | some j => (([] : List Int), 20, (j : Int)) | none => r)
  | [], i, B, hd, hB, h => by
    have h1 := drop_none hd
    rw [sN_len] at h1
    have h2 := h rfl
    simp only [List.map_nil, List.flatMap_nil, List.append_nil] at h2
    obtain ⟨K, hK⟩ := h2
    refine ⟨K + 1, fun k hk => ?_⟩
    have h3 := hK k (by omega)
    obtain ⟨m, rfl⟩ : ∃ m, k = m + 1 := ⟨k - 1, by omega⟩
    have c1 : ¬ ((i : Int) < (s.size : Int)) := by omega
    have c2 : ¬ ((s.size : Int) < (s.size : Int)) := by omega
    simp only [wicketref02_read.l0] at h3 ⊢
    rw [if_neg c2] at h3
    rw [if_neg c1]
    exact h3
  | x :: d, i, B, hd, hB, h => by
    obtain ⟨h1, h2, h3⟩ := drop_at hd
    rw [sN_len] at h1
    have hx := bt_sN s i h1
    rw [h2] at hx
    have hp := value16_ev x al16 0 (by simp)
    have c1 : (i : Int) < (s.size : Int) := by omega
    have c2 : (0 : Int) ≤ (i : Int) := by omega
    have e6 : wrap64 (4 - 1) = 3 := by rw [w64 (by decide) (by decide)]; rfl
    refine Ev.step (f := fun k => (wicketref02_value.f k (x : Int) 16 true).bind fun t200 => (if t200 < 0 then (some (([] : List Int), 20, (i : Int))) else (wicketref02_read.l1 k s true 4 16 (toI B) (i : Int) t200 3))) (fun k => ?_) ?_
    · simp only [wicketref02_read.l0]
      rw [if_pos c1, if_pos c2, hx, e6]
    by_cases hc : x ∈ al16
    · have hv : vat al16 x 0 = ((value al16 x : Nat) : Int) := by unfold vat; rw [if_pos hc, Nat.zero_add]
      have hvl : value al16 x < 16 := valt al16 x hc
      have hv0 : ¬ (((value al16 x : Nat) : Int) < 0) := by omega
      have hB2 : (B ++ bw4 (value al16 x)).length ≤ 6 * (i + 1) := by rw [List.length_append]; show B.length + 4 ≤ _; omega
      rw [hv] at hp
      rw [bad, if_pos hc] at h
      rw [bad, if_pos hc]
      have ih := scan16 s hs r d (i + 1) (B ++ bw4 (value al16 x)) h3 hB2 (fun hn => by
        have := h hn
        simp only [List.map_cons, List.flatMap_cons] at this
        rw [List.append_assoc]
        exact this)
      exact Ev.bind hp (Ev.neg hv0 (push4b s 4 16 B i (value al16 x) _ (by omega) (by omega) (by omega) ih))
    · have hv : vat al16 x 0 = -1 := by unfold vat; rw [if_neg hc]
      rw [hv] at hp
      rw [bad, if_neg hc]
      exact Ev.bind hp (Ev.pos (by decide) (Ev.now _))
/-- Bytes of eight bits each, and the bits that are left. -/
def eights : List Nat → List Nat × List Nat
  | b0 :: b1 :: b2 :: b3 :: b4 :: b5 :: b6 :: b7 :: r => ((2 * (2 * (2 * (2 * (2 * (2 * (2 * (2 * 0 + b0) + b1) + b2) + b3) + b4) + b5) + b6) + b7) :: (eights r).1, (eights r).2)
  | l => ([], l)
theorem eights_short (l : List Nat) (h : l.length < 8) : eights l = ([], l) := by
  match l, h with
  | [], _ => rfl
  | [_], _ => rfl
  | [_, _], _ => rfl
  | [_, _, _], _ => rfl
  | [_, _, _, _], _ => rfl
  | [_, _, _, _, _], _ => rfl
  | [_, _, _, _, _, _], _ => rfl
  | [_, _, _, _, _, _, _], _ => rfl
  | _ :: _ :: _ :: _ :: _ :: _ :: _ :: _ :: _, h => simp at h; omega
theorem eight_more (l : List Nat) (h : 8 ≤ l.length) : ∃ b0 b1 b2 b3 b4 b5 b6 b7 r, l = b0 :: b1 :: b2 :: b3 :: b4 :: b5 :: b6 :: b7 :: r := by
  match l, h with
  | b0 :: b1 :: b2 :: b3 :: b4 :: b5 :: b6 :: b7 :: r, _ => exact ⟨_, _, _, _, _, _, _, _, _, rfl⟩
theorem rl3_step (s : ByteArray) (B out : List Nat) (i n j b : Nat) (hj : j < 8) (hl : i + j < B.length) (hb : B.getD (i + j) 0 = b) (hb2 : b < 2) (hn : n < 128) (hB : B.length < 1000000) (k : Nat) :
    wicketref02_read.l3 (k + 1) s (toI B) (toI out) (i : Int) (n : Int) (j : Int) = wicketref02_read.l3 k s (toI B) (toI out) (i : Int) ((2 * n + b : Nat) : Int) ((j + 1 : Nat) : Int) := by
  have c1 : (j : Int) < 8 := by omega
  have c2 : (0 : Int) ≤ ((i + j : Nat) : Int) := by omega
  have c3 : ((i + j : Nat) : Int) < ((toI B).length : Int) := by rw [toI_len]; omega
  have e1 : wrap64 ((i : Int) + (j : Int)) = ((i + j : Nat) : Int) := w64n (i + j) (by omega)
  have e2 : wrap64 ((j : Int) + 1) = ((j + 1 : Nat) : Int) := w64n (j + 1) (by omega)
  have e3 : wrap64 (2 * (n : Int)) = ((2 * n : Nat) : Int) := w64n (2 * n) (by omega)
  have e4 : wrap64 (((2 * n : Nat) : Int) + (b : Int)) = ((2 * n + b : Nat) : Int) := w64n (2 * n + b) (by omega)
  simp only [wicketref02_read.l3]
  rw [if_pos c1, e1, if_pos c2, if_pos c3, rd_toI, hb, e2, e3, e4]
theorem rl3_end (s : ByteArray) (B out : List Nat) (i n : Nat) (hi : i < 1000000) (hn : n < 256) (ho : out.length < 1000000) (k : Nat) :
    wicketref02_read.l3 (k + 1) s (toI B) (toI out) (i : Int) (n : Int) 8 = wicketref02_read.l2 k s (toI B) (toI (out ++ [n])) ((i + 8 : Nat) : Int) := by
  have c1 : (toI out).length < 140737488355328 := by rw [toI_len]; omega
  have e1 : wrap64 ((i : Int) + 8) = ((i + 8 : Nat) : Int) := w64n (i + 8) (by omega)
  have e2 : (n : Int) % 256 = (n : Int) := by omega
  simp only [wicketref02_read.l3]
  rw [if_neg (by decide), if_pos c1, e2, e1, toI_push]
theorem n2 (n b m : Nat) (h : n < m) (hb : b < 2) : 2 * n + b < 2 * m := by omega
theorem rbyte (s : ByteArray) (B out : List Nat) (i b0 b1 b2 b3 b4 b5 b6 b7 : Nat) (r : List Nat) (R : List Int × Int × Int) (hd : B.drop i = b0 :: b1 :: b2 :: b3 :: b4 :: b5 :: b6 :: b7 :: r) (hB : B.length < 1000000) (h2 : Lt 2 B) (ho : out.length < 1000000)
    (h : Ev (fun k => wicketref02_read.l2 k s (toI B) (toI (out ++ [2 * (2 * (2 * (2 * (2 * (2 * (2 * (2 * 0 + b0) + b1) + b2) + b3) + b4) + b5) + b6) + b7])) ((i + 8 : Nat) : Int)) R) :
    Ev (fun k => wicketref02_read.l2 k s (toI B) (toI out) (i : Int)) R := by
  obtain ⟨p0, g0, d0⟩ := drop_at hd
  obtain ⟨p1, g1, d1⟩ := drop_at d0
  obtain ⟨p2, g2, d2⟩ := drop_at d1
  obtain ⟨p3, g3, d3⟩ := drop_at d2
  obtain ⟨p4, g4, d4⟩ := drop_at d3
  obtain ⟨p5, g5, d5⟩ := drop_at d4
  obtain ⟨p6, g6, d6⟩ := drop_at d5
  obtain ⟨p7, g7, d7⟩ := drop_at d6
  have hm : ∀ x ∈ b0 :: b1 :: b2 :: b3 :: b4 :: b5 :: b6 :: b7 :: r, x < 2 := fun x hx => h2 x (List.mem_of_mem_drop (hd ▸ hx))
  have q0 : b0 < 2 := hm b0 (by simp)
  have q1 : b1 < 2 := hm b1 (by simp)
  have q2 : b2 < 2 := hm b2 (by simp)
  have q3 : b3 < 2 := hm b3 (by simp)
  have q4 : b4 < 2 := hm b4 (by simp)
  have q5 : b5 < 2 := hm b5 (by simp)
  have q6 : b6 < 2 := hm b6 (by simp)
  have q7 : b7 < 2 := hm b7 (by simp)
  clear hm hd d0 d1 d2 d3 d4 d5 d6 d7
  have z0 := n2 0 b0 1 (by decide) q0
  have z1 := n2 _ b1 _ z0 q1
  have z2 := n2 _ b2 _ z1 q2
  have z3 := n2 _ b3 _ z2 q3
  have z4 := n2 _ b4 _ z3 q4
  have z5 := n2 _ b5 _ z4 q5
  have z6 := n2 _ b6 _ z5 q6
  have z7 := n2 _ b7 _ z6 q7
  have hi : i < 1000000 := Nat.lt_trans p0 hB
  have e0 : wrap64 ((i : Int) + 8) = ((i + 8 : Nat) : Int) := w64n (i + 8) (Nat.lt_trans (Nat.add_lt_add_right hi 8) (by decide))
  have c0 : ((i + 8 : Nat) : Int) ≤ ((toI B).length : Int) := by rw [toI_len]; exact Int.ofNat_le.2 (Nat.succ_le_of_lt p7)
  have l0 := rl3_step s B out i 0 0 b0 (by decide) p0 g0 q0 (by decide) hB
  have l1 := rl3_step s B out i _ 1 b1 (by decide) p1 g1 q1 (Nat.lt_of_lt_of_le z0 (by decide)) hB
  have l2 := rl3_step s B out i _ 2 b2 (by decide) p2 g2 q2 (Nat.lt_of_lt_of_le z1 (by decide)) hB
  have l3 := rl3_step s B out i _ 3 b3 (by decide) p3 g3 q3 (Nat.lt_of_lt_of_le z2 (by decide)) hB
  have l4 := rl3_step s B out i _ 4 b4 (by decide) p4 g4 q4 (Nat.lt_of_lt_of_le z3 (by decide)) hB
  have l5 := rl3_step s B out i _ 5 b5 (by decide) p5 g5 q5 (Nat.lt_of_lt_of_le z4 (by decide)) hB
  have l6 := rl3_step s B out i _ 6 b6 (by decide) p6 g6 q6 (Nat.lt_of_lt_of_le z5 (by decide)) hB
  have l7 := rl3_step s B out i _ 7 b7 (by decide) p7 g7 q7 (Nat.lt_of_lt_of_le z6 (by decide)) hB
  have l8 := rl3_end s B out i _ hi z7 ho
  refine Ev.step (f := fun k => wicketref02_read.l3 k s (toI B) (toI out) (i : Int) ((0 : Nat) : Int) ((0 : Nat) : Int)) (fun k => ?_) (Ev.step l0 (Ev.step l1 (Ev.step l2 (Ev.step l3 (Ev.step l4 (Ev.step l5 (Ev.step l6 (Ev.step l7 (Ev.step l8 h)))))))))
  simp only [wicketref02_read.l2]
  rw [e0, if_pos c0]
  rfl
theorem rl4_ev (s : ByteArray) (B out : List Nat) (hB : B.length < 1000000) (hs : s.size ≤ 65536) : ∀ (d : List Nat) (i : Nat), B.drop i = d →
    Ev (fun k => wicketref02_read.l4 k s (toI B) (toI out) (i : Int)) (if d.all (· == 0) then (toI out, 0, 0) else (([] : List Int), 21, (s.size : Int) - 1))
  | [], i, hd => by
    have := drop_none hd
    have c1 : ¬ ((i : Int) < ((toI B).length : Int)) := by rw [toI_len]; omega
    refine Ev.step (f := fun _ => some (toI out, 0, 0)) (fun k => ?_) (Ev.eq (Ev.now _) (by simp))
    simp only [wicketref02_read.l4]
    rw [if_neg c1]
  | x :: d, i, hd => by
    obtain ⟨h1, h2, h3⟩ := drop_at hd
    have c1 : ((i : Int) < ((toI B).length : Int)) := by rw [toI_len]; omega
    have c2 : (0 : Int) ≤ (i : Int) := by omega
    by_cases hx : x = 0
    · have e1 : wrap64 ((i : Int) + 1) = ((i + 1 : Nat) : Int) := w64n (i + 1) (by omega)
      refine Ev.eq (Ev.step (fun k => ?_) (rl4_ev s B out hB hs d (i + 1) h3)) (by simp [hx])
      simp only [wicketref02_read.l4]
      rw [if_pos c1, if_pos c2, rd_toI, h2, hx, e1]
      rfl
    · have hx' : ¬ ((x : Int) = 0) := by omega
      have e1 : wrap64 ((s.size : Int) - 1) = (s.size : Int) - 1 := w64 (by omega) (by omega)
      refine Ev.eq (Ev.step (f := fun _ => some (([] : List Int), 21, (s.size : Int) - 1)) (fun k => ?_) (Ev.now _)) (by simp [hx])
      simp only [wicketref02_read.l4]
      rw [if_pos c1, if_pos c2, rd_toI, h2, if_neg hx', e1]
theorem rl2_ev (s : ByteArray) (B : List Nat) (hB : B.length < 1000000) (hs : s.size ≤ 65536) (h2 : Lt 2 B) : ∀ (m : Nat) (d : List Nat) (i : Nat) (out : List Nat), d.length ≤ m → B.drop i = d → i = 8 * out.length → i ≤ B.length →
    Ev (fun k => wicketref02_read.l2 k s (toI B) (toI out) (i : Int)) (if (eights d).2.all (· == 0) then (toI (out ++ (eights d).1), 0, 0) else (([] : List Int), 21, (s.size : Int) - 1)) := by
  intro m
  induction m with
  | zero =>
    intro d i out hm hd hi hle
    obtain rfl : d = [] := List.eq_nil_of_length_eq_zero (by omega)
    have h4 := rl4_ev s B out hB hs [] i hd
    have hn := drop_none hd
    have e0 : wrap64 ((i : Int) + 8) = ((i + 8 : Nat) : Int) := w64n (i + 8) (by omega)
    have e1 : wrap64 (8 * ((toI out).length : Int)) = (i : Int) := by rw [toI_len]; have := w64n (8 * out.length) (by omega); rw [hi]; exact this
    have c1 : ¬ (((i + 8 : Nat) : Int) ≤ ((toI B).length : Int)) := by rw [toI_len]; omega
    refine Ev.eq (Ev.step (fun k => ?_) h4) (by simp [eights])
    simp only [wicketref02_read.l2]
    rw [e0, if_neg c1, e1]
  | succ m ih =>
    intro d i out hm hd hi hle
    have hdl : d.length = B.length - i := by rw [← hd, List.length_drop]
    by_cases h8 : 8 ≤ d.length
    · obtain ⟨b0, b1, b2, b3, b4, b5, b6, b7, r, rfl⟩ := eight_more d h8
      have hr : B.drop (i + 8) = r := by rw [← List.drop_drop, hd]; rfl
      have ih2 := ih r (i + 8) (out ++ [2 * (2 * (2 * (2 * (2 * (2 * (2 * (2 * 0 + b0) + b1) + b2) + b3) + b4) + b5) + b6) + b7]) (by simp at hm; omega) hr (by simp; omega) (by simp at hdl; omega)
      refine Ev.eq (rbyte s B out i b0 b1 b2 b3 b4 b5 b6 b7 r _ hd hB h2 (by omega) ih2) ?_
      rw [eights]
      simp only [List.append_assoc, List.cons_append, List.nil_append]
    · have h4 := rl4_ev s B out hB hs d i hd
      have e0 : wrap64 ((i : Int) + 8) = ((i + 8 : Nat) : Int) := w64n (i + 8) (by omega)
      have e1 : wrap64 (8 * ((toI out).length : Int)) = (i : Int) := by rw [toI_len]; have := w64n (8 * out.length) (by omega); rw [hi]; exact this
      have c1 : ¬ (((i + 8 : Nat) : Int) ≤ ((toI B).length : Int)) := by rw [toI_len]; omega
      refine Ev.eq (Ev.step (fun k => ?_) h4) (by rw [eights_short d (by omega)]; simp)
      simp only [wicketref02_read.l2]
      rw [e0, if_neg c1, e1]
theorem bw6_lt (V : List Nat) : Lt 2 (V.flatMap bw6) := fun x hx => by
  obtain ⟨n, _, hx⟩ := List.mem_flatMap.1 hx
  simp only [bw6, List.mem_cons, List.not_mem_nil, or_false] at hx
  rcases hx with rfl | rfl | rfl | rfl | rfl | rfl <;> exact Nat.mod_lt _ (by decide)
theorem bw4_lt (V : List Nat) : Lt 2 (V.flatMap bw4) := fun x hx => by
  obtain ⟨n, _, hx⟩ := List.mem_flatMap.1 hx
  simp only [bw4, List.mem_cons, List.not_mem_nil, or_false] at hx
  rcases hx with rfl | rfl | rfl | rfl <;> exact Nat.mod_lt _ (by decide)
theorem bw6_len (V : List Nat) : (V.flatMap bw6).length = 6 * V.length := by
  induction V with
  | nil => rfl
  | cons x V ih => rw [List.flatMap_cons, List.length_append, ih, List.length_cons]; show 6 + 6 * V.length = _; omega
theorem bw4_len (V : List Nat) : (V.flatMap bw4).length = 4 * V.length := by
  induction V with
  | nil => rfl
  | cons x V ih => rw [List.flatMap_cons, List.length_append, ih, List.length_cons]; show 4 + 4 * V.length = _; omega
theorem v6 : ∀ x, x < 64 → ∀ y, y < 64 → 2 * (2 * (2 * (2 * (2 * (2 * (2 * (2 * 0 + x / 2 ^ 5 % 2) + x / 2 ^ 4 % 2) + x / 2 ^ 3 % 2) + x / 2 ^ 2 % 2) + x / 2 ^ 1 % 2) + x / 2 ^ 0 % 2) + y / 2 ^ 5 % 2) + y / 2 ^ 4 % 2 = x * 4 + y / 16 := by decide +kernel
theorem v4 : ∀ y, y < 64 → ∀ z, z < 64 → 2 * (2 * (2 * (2 * (2 * (2 * (2 * (2 * 0 + y / 2 ^ 3 % 2) + y / 2 ^ 2 % 2) + y / 2 ^ 1 % 2) + y / 2 ^ 0 % 2) + z / 2 ^ 5 % 2) + z / 2 ^ 4 % 2) + z / 2 ^ 3 % 2) + z / 2 ^ 2 % 2 = y % 16 * 16 + z / 4 := by decide +kernel
theorem v2 : ∀ z, z < 64 → ∀ t, t < 64 → 2 * (2 * (2 * (2 * (2 * (2 * (2 * (2 * 0 + z / 2 ^ 1 % 2) + z / 2 ^ 0 % 2) + t / 2 ^ 5 % 2) + t / 2 ^ 4 % 2) + t / 2 ^ 3 % 2) + t / 2 ^ 2 % 2) + t / 2 ^ 1 % 2) + t / 2 ^ 0 % 2 = z % 4 * 64 + t := by decide +kernel
theorem a6 : ∀ x, x < 64 → [x / 2 ^ 5 % 2, x / 2 ^ 4 % 2, x / 2 ^ 3 % 2, x / 2 ^ 2 % 2, x / 2 ^ 1 % 2, x / 2 ^ 0 % 2].all (· == 0) = decide (x = 0) := by decide +kernel
theorem a4 : ∀ y, y < 64 → [y / 2 ^ 3 % 2, y / 2 ^ 2 % 2, y / 2 ^ 1 % 2, y / 2 ^ 0 % 2].all (· == 0) = decide (y % 16 = 0) := by decide +kernel
theorem a2_ : ∀ z, z < 64 → [z / 2 ^ 1 % 2, z / 2 ^ 0 % 2].all (· == 0) = decide (z % 4 = 0) := by decide +kernel
theorem eights6 : ∀ (V : List Nat), Lt 64 V → (eights (V.flatMap bw6)).1 = (une V).1 ∧ (eights (V.flatMap bw6)).2.all (· == 0) = decide ((une V).2 = 0)
  | [], _ => ⟨rfl, rfl⟩
  | [x], h => ⟨rfl, a6 x h.cons.1⟩
  | [x, y], h => by
    have hx := h.cons.1
    have hy := h.cons.2.cons.1
    refine ⟨?_, a4 y hy⟩
    show [_] = [_]
    rw [v6 x hx y hy]
  | [x, y, z], h => by
    have hx := h.cons.1
    have hy := h.cons.2.cons.1
    have hz := h.cons.2.cons.2.cons.1
    refine ⟨?_, a2_ z hz⟩
    show [_, _] = [_, _]
    rw [v6 x hx y hy, v4 y hy z hz]
  | x :: y :: z :: t :: r, h => by
    have hx := h.cons.1
    have hy := h.cons.2.cons.1
    have hz := h.cons.2.cons.2.cons.1
    have ht := h.cons.2.cons.2.cons.2.cons.1
    obtain ⟨i1, i2⟩ := eights6 r h.cons.2.cons.2.cons.2.cons.2
    refine ⟨?_, i2⟩
    show _ :: _ :: _ :: (eights (r.flatMap bw6)).1 = _
    rw [v6 x hx y hy, v4 y hy z hz, v2 z hz t ht, i1]
    rfl
theorem x4 : ∀ x, x < 16 → ∀ y, y < 16 → 2 * (2 * (2 * (2 * (2 * (2 * (2 * (2 * 0 + x / 2 ^ 3 % 2) + x / 2 ^ 2 % 2) + x / 2 ^ 1 % 2) + x / 2 ^ 0 % 2) + y / 2 ^ 3 % 2) + y / 2 ^ 2 % 2) + y / 2 ^ 1 % 2) + y / 2 ^ 0 % 2 = x * 16 + y := by decide +kernel
theorem eights4 : ∀ (V : List Nat), Lt 16 V → V.length % 2 ≠ 1 → eights (V.flatMap bw4) = (unf V, [])
  | [], _, _ => rfl
  | [x], _, h => absurd rfl h
  | x :: y :: r, h, hl => by
    have hx := h.cons.1
    have hy := h.cons.2.cons.1
    have ih := eights4 r h.cons.2.cons.2 (by simp only [List.length_cons] at hl; omega)
    show (_ :: (eights (r.flatMap bw4)).1, (eights (r.flatMap bw4)).2) = _
    rw [x4 x hx y hy, ih]
    rfl
theorem rfrom64_ev (s : ByteArray) : Ev (fun k => wicketref02_FromBase64.f k s) (tri (from64 (sN s))) := by
  unfold wicketref02_FromBase64.f
  refine Ev.bind (a := tri (from64 (sN s))) ?_ (Ev.now _)
  unfold wicketref02_read.f
  refine Ev.neg (by decide) ?_
  by_cases h : s.size > 65536
  · refine Ev.step (f := fun _ => some (([] : List Int), 1, 0)) (fun k => ?_) (Ev.eq (Ev.now _) (by unfold from64; rw [sN_len, if_pos h]; rfl))
    have c : (s.size : Int) > 65536 := by omega
    simp only [wicketref02_read.j0]
    rw [if_pos c]
  · have c : ¬ ((s.size : Int) > 65536) := by omega
    refine Ev.step (f := fun k => wicketref02_read.l0 k s false 6 64 (toI []) ((0 : Nat) : Int)) (fun k => ?_) ?_
    · simp only [wicketref02_read.j0]
      rw [if_neg c]
      rfl
    have hl : ((sN s).map (value al64)).length = s.size := by rw [List.length_map, sN_len]
    refine Ev.eq (scan64 s (by omega) (if s.size % 4 = 1 then (([] : List Int), 3, (s.size : Int)) else if (une ((sN s).map (value al64))).2 = 0 then (toI (une ((sN s).map (value al64))).1, 0, 0) else (([] : List Int), 21, (s.size : Int) - 1)) (sN s) 0 [] (by simp) (by simp) (fun hn => ?_)) ?_
    · have hv : Lt 64 ((sN s).map (value al64)) := value_lt _ (good _ 0 hn)
      have c1 : ¬ ((s.size : Int) < (s.size : Int)) := by omega
      rw [List.nil_append]
      refine Ev.step (f := fun k => wicketref02_read.j3 k s (toI (((sN s).map (value al64)).flatMap bw6)) (((s.size : Int) % 4) == 1)) (fun k => ?_) ?_
      · simp only [wicketref02_read.l0]
        rw [if_neg c1, if_neg (by decide)]
      by_cases h4 : s.size % 4 = 1
      · have e4 : (((s.size : Int) % 4) == 1) = true := by simp; omega
        rw [e4, if_pos h4]
        refine Ev.step (f := fun _ => some (([] : List Int), 3, (s.size : Int))) (fun k => ?_) (Ev.now _)
        simp only [wicketref02_read.j3]
        rfl
      · have e4 : (((s.size : Int) % 4) == 1) = false := by simp; omega
        rw [e4, if_neg h4]
        have hB := rl2_ev s (((sN s).map (value al64)).flatMap bw6) (by rw [bw6_len, hl]; omega) (by omega) (bw6_lt _) _ (((sN s).map (value al64)).flatMap bw6) 0 [] (Nat.le_refl _) (by simp) (by simp) (by simp)
        obtain ⟨i1, i2⟩ := eights6 _ hv
        refine Ev.step (f := fun k => wicketref02_read.l2 k s (toI (((sN s).map (value al64)).flatMap bw6)) (toI []) ((0 : Nat) : Int)) (fun k => ?_) (Ev.eq hB ?_)
        · simp only [wicketref02_read.j3]
          rfl
        · rw [i2, List.nil_append, i1]
          simp only [decide_eq_true_eq]
    · unfold from64
      rw [sN_len, if_neg h]
      cases hb : bad al64 (sN s) 0 with
      | some j => rfl
      | none =>
        simp only []
        by_cases h4 : s.size % 4 = 1
        · rw [if_pos h4, if_pos h4]
          rfl
        · rw [if_neg h4, if_neg h4]
          by_cases h0 : (une ((sN s).map (value al64))).2 = 0
          · rw [if_pos h0, if_pos h0]
            rfl
          · rw [if_neg h0, if_neg h0]
            have : s.size ≠ 0 := fun e => h0 (by
              have : (sN s).map (value al64) = [] := List.eq_nil_of_length_eq_zero (by rw [hl, e])
              rw [this]; rfl)
            unfold tri
            simp only []
            rw [show ((s.size - 1 : Nat) : Int) = (s.size : Int) - 1 by omega]
            rfl
theorem rfrom16_ev (s : ByteArray) : Ev (fun k => wicketref02_FromHex.f k s) (tri (from16 (sN s))) := by
  unfold wicketref02_FromHex.f
  refine Ev.bind (a := tri (from16 (sN s))) ?_ (Ev.now _)
  unfold wicketref02_read.f
  refine Ev.pos rfl ?_
  by_cases h : s.size > 65536
  · refine Ev.step (f := fun _ => some (([] : List Int), 1, 0)) (fun k => ?_) (Ev.eq (Ev.now _) (by unfold from16; rw [sN_len, if_pos h]; rfl))
    have c : (s.size : Int) > 65536 := by omega
    simp only [wicketref02_read.j0]
    rw [if_pos c]
  · have c : ¬ ((s.size : Int) > 65536) := by omega
    refine Ev.step (f := fun k => wicketref02_read.l0 k s true 4 16 (toI []) ((0 : Nat) : Int)) (fun k => ?_) ?_
    · simp only [wicketref02_read.j0]
      rw [if_neg c]
      rfl
    have hl : ((sN s).map (value al16)).length = s.size := by rw [List.length_map, sN_len]
    refine Ev.eq (scan16 s (by omega) (if s.size % 2 = 1 then (([] : List Int), 3, (s.size : Int)) else (toI (unf ((sN s).map (value al16))), 0, 0)) (sN s) 0 [] (by simp) (by simp) (fun hn => ?_)) ?_
    · have hv : Lt 16 ((sN s).map (value al16)) := value_lt _ (good _ 0 hn)
      have c1 : ¬ ((s.size : Int) < (s.size : Int)) := by omega
      rw [List.nil_append]
      by_cases h4 : s.size % 2 = 1
      · have e4 : ((s.size : Int) % 2) = 1 := by omega
        refine Ev.step (f := fun k => wicketref02_read.j3 k s (toI (((sN s).map (value al16)).flatMap bw4)) true) (fun k => ?_) ?_
        · simp only [wicketref02_read.l0]
          rw [if_neg c1, if_pos trivial, if_pos e4]
        rw [if_pos h4]
        refine Ev.step (f := fun _ => some (([] : List Int), 3, (s.size : Int))) (fun k => ?_) (Ev.now _)
        simp only [wicketref02_read.j3]
        rfl
      · have e4 : ¬ (((s.size : Int) % 2) = 1) := by omega
        refine Ev.step (f := fun k => wicketref02_read.j3 k s (toI (((sN s).map (value al16)).flatMap bw4)) false) (fun k => ?_) ?_
        · simp only [wicketref02_read.l0]
          rw [if_neg c1, if_pos trivial, if_neg e4]
        rw [if_neg h4]
        have hB := rl2_ev s (((sN s).map (value al16)).flatMap bw4) (by rw [bw4_len, hl]; omega) (by omega) (bw4_lt _) _ (((sN s).map (value al16)).flatMap bw4) 0 [] (Nat.le_refl _) (by simp) (by simp) (by simp)
        have i1 := eights4 _ hv (by rw [hl]; exact h4)
        refine Ev.step (f := fun k => wicketref02_read.l2 k s (toI (((sN s).map (value al16)).flatMap bw4)) (toI []) ((0 : Nat) : Int)) (fun k => ?_) (Ev.eq hB ?_)
        · simp only [wicketref02_read.j3]
          rfl
        · rw [i1, List.nil_append]
          rfl
    · unfold from16
      rw [sN_len, if_neg h]
      cases hb : bad al16 (sN s) 0 with
      | some j => rfl
      | none =>
        simp only []
        by_cases h4 : s.size % 2 = 1
        · rw [if_pos h4, if_pos h4]
          rfl
        · rw [if_neg h4, if_neg h4]
          rfl
end Go.Proofs.YtfedlgcpgfofjaaDoor.Sha
