/-
  Bytes compared (the digest's own text, by extract.py and retype.py).
-/
import Derived.Test.YtaeipffenlkjpaaDoorHSha
import Derived.ArgAppend
namespace Go.Proofs.YtaeipffenlkjpaaDoor.Sha
open Go.RowKit Go.Proofs.YtaeipffenlkjpaaDoorW.PrintWords Go.Proofs.YtaeipffenlkjpaaDoor.PAll Go.Proofs.YtaeipffenlkjpaaDoor.Plain Go.Proofs.YtaeipffenlkjpaaDoor.Cod
set_option linter.unusedVariables false
set_option linter.unusedSimpArgs false
theorem u8_xor (a b : Nat) (ha : a < 256) (hb : b < 256) : bits .xor .u8 (a : Int) (b : Int) = ((a ^^^ b : Nat) : Int) := by
  have hx : a ^^^ b < 256 := Nat.xor_lt_two_pow (n := 8) ha hb
  have e1 : ∀ x : Nat, x < 256 → (BitVec.ofInt 8 (x : Int)).toNat = x := fun x h => by simp; omega
  show IntKind.u8.wrap ((BitVec.ofInt 8 (a : Int) ^^^ BitVec.ofInt 8 (b : Int)).toNat : Int) = _
  rw [BitVec.toNat_xor, e1 a ha, e1 b hb]
  show ((_ : Int) % 256) = _
  omega
theorem u8_or (a b : Nat) (ha : a < 256) (hb : b < 256) : bits .or .u8 (a : Int) (b : Int) = ((a ||| b : Nat) : Int) := by
  have hx : a ||| b < 256 := Nat.or_lt_two_pow (n := 8) ha hb
  have e1 : ∀ x : Nat, x < 256 → (BitVec.ofInt 8 (x : Int)).toNat = x := fun x h => by simp; omega
  show IntKind.u8.wrap ((BitVec.ofInt 8 (a : Int) ||| BitVec.ofInt 8 (b : Int)).toNat : Int) = _
  rw [BitVec.toNat_or, e1 a ha, e1 b hb]
  show ((_ : Int) % 256) = _
  omega
theorem or_zero (a b : Nat) : a ||| b = 0 ↔ a = 0 ∧ b = 0 := by
  constructor
  · intro h
    have h1 : a ≤ a ||| b := Nat.left_le_or
    have h2 : b ≤ a ||| b := Nat.right_le_or
    omega
  · rintro ⟨rfl, rfl⟩
    rfl
theorem xor_zero (a b : Nat) : a ^^^ b = 0 ↔ a = b := by
  constructor
  · intro h
    have : a ^^^ b ^^^ b = 0 ^^^ b := by rw [h]
    rwa [Nat.xor_assoc, Nat.xor_self, Nat.xor_zero, Nat.zero_xor] at this
  · rintro rfl
    exact Nat.xor_self a
theorem rd_toI_ (p : List Nat) (i : Nat) : rd (toI p) (i : Int) = ((p.getD i 0 : Nat) : Int) := by unfold rd; rw [Int.toNat_natCast, toI_getD]
theorem drop_get (p : List Nat) (i : Nat) (h : i < p.length) : p.drop i = p.getD i 0 :: p.drop (i + 1) := by
  rw [List.drop_eq_getElem_cons h, List.getD_eq_getElem?_getD, List.getElem?_eq_getElem h]
  rfl
theorem Same_loop (p q : List Nat) (hl : p.length = q.length) (hp : All 256 p) (hq : All 256 q) (hb : p.length ≤ 1000000000000) : ∀ (m i acc : Nat), i + m = p.length → acc < 256 →
    Ev (fun k => digest_Same.l0 k (toI p) (toI q) (acc : Int) (p.length : Int) (i : Int)) (decide (acc = 0 ∧ p.drop i = q.drop i)) := by
  intro m
  induction m with
  | zero =>
    intro i acc hi ha
    refine Ev.step (f := fun _ => some ((acc : Int) == 0)) (fun k => ?_) (Ev.eq (Ev.now _) ?_)
    · simp only [digest_Same.l0]
      rw [if_neg (by omega)]
    · rw [List.drop_eq_nil_of_le (by omega), List.drop_eq_nil_of_le (by omega)]
      by_cases h : acc = 0
      · subst h; rfl
      · rw [decide_eq_false (fun hh => h hh.1)]
        simp
        omega
  | succ m ih =>
    intro i acc hi ha
    have h1 : i < p.length := by omega
    have h2 : i < q.length := by omega
    have x1 := hp.getD (by decide) i
    have x2 := hq.getD (by decide) i
    have x3 : p.getD i 0 ^^^ q.getD i 0 < 256 := Nat.xor_lt_two_pow (n := 8) x1 x2
    have x4 : acc ||| (p.getD i 0 ^^^ q.getD i 0) < 256 := Nat.or_lt_two_pow (n := 8) ha x3
    have c1 : (i : Int) < (p.length : Int) := by omega
    have c2 : (0 : Int) ≤ (i : Int) := by omega
    have c3 : (i : Int) < ((toI p).length : Int) := by rw [toI_len]; omega
    have c4 : (i : Int) < ((toI q).length : Int) := by rw [toI_len]; omega
    have c5 : wrap64 ((i : Int) + 1) = ((i + 1 : Nat) : Int) := by rw [w64 (by omega) (by omega)]; rfl
    refine Ev.eq (Ev.step (fun k => ?_) (ih (i + 1) (acc ||| (p.getD i 0 ^^^ q.getD i 0)) (by omega) x4)) ?_
    · simp only [digest_Same.l0]
      rw [if_pos c1, if_pos c2, if_pos c3, if_pos c4, rd_toI_, rd_toI_, u8_xor _ _ x1 x2, u8_or _ _ ha x3, c5]
    · rw [drop_get p i h1, drop_get q i h2]
      simp only [or_zero, xor_zero, List.cons.injEq, and_assoc]
theorem Same_any (p q : List Nat) (A B : Option Addr) (n m c d : Nat) (w : World) (hn : n = p.length) (hm : m = q.length) (hb : n ≤ 1000000000000) (hc : n ≤ c) (hd : m ≤ d) (hpa : All 256 p) (hqa : All 256 q) (hp : C8 w A p.length p) (hq : C8 w B q.length q) :
    Calls Tryd.prog 12 #[.slice A n c, .slice B m d] w fun e w' => e = .returned (.bool (decide (p = q))) ∧ Below w.heap.size w w' := by
  subst hn hm
  have hev : Ev (fun k => digest_Same.f k (toI p) (toI q)) (decide (p = q)) := by
    unfold digest_Same.f
    by_cases hl : p.length = q.length
    · refine Ev.pos (by rw [toI_len, toI_len]; omega) ?_
      rw [toI_len]
      refine Ev.eq (Same_loop p q hl hpa hqa hb p.length 0 0 (by omega) (by decide)) ?_
      simp
    · refine Ev.neg (by rw [toI_len, toI_len]; omega) (Ev.eq (Ev.now _) ?_)
      rw [decide_eq_false (fun e => hl (by rw [e]))]
  obtain ⟨k, hk⟩ := Ev.rounds hev
  have h := digest_Same.calls k A c (toI p) B d (toI q) _ w (by rw [toI_len]; exact hp) (by rw [toI_len]; exact hc) (by rw [toI_len]; exact hq) (by rw [toI_len]; exact hd) hk
  rw [toI_len, toI_len] at h
  exact h.mono fun x w' ⟨h1, h2⟩ => ⟨h1, by first | exact h2 | exact h2.below⟩
end Go.Proofs.YtaeipffenlkjpaaDoor.Sha
