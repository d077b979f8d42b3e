/-
  A client's validity, on lists of bytes, and what client.Check computes (the printed function).
-/
import Derived.Test.YtmimipgmhgalaaaGreatDoorPure11a
import Derived.Test.YtmimipgmhgalaaaGreatDoorPAllx4
import Derived.Test.YtmimipgmhgalaaaGreatDoorFTake
namespace Go.Proofs.YtmimipgmhgalaaaGreatDoor.Spec
open Go.Proofs.YtmimipgmhgalaaaGreatDoor.PAll
def withinL (l : List UInt8) (least most low : Nat) : Bool := l.all (fun c => decide (low ≤ c.toNat) && decide (c.toNat ≤ 126)) && (decide (least ≤ l.length) && decide (l.length ≤ most))
structure ClT where
  i : ByteArray
  s : ByteArray
  gr : Int
  pg : Bool
  u : ByteArray
  sc : List ByteArray
def httpsL : List UInt8 := [104, 116, 116, 112, 115, 58, 47, 47]
def urlL (c : ClT) : Bool := if c.pg = true then (decide (Go.bits .and .i64 c.gr 2 ≠ 0) && decide (c.s.data.toList ≠ []) && withinL c.u.data.toList 9 256 33 && Lib.hasPrefix c.u.data.toList httpsL) else decide (c.u.data.toList = [])
def joinedL (l : List ByteArray) : List UInt8 := Lib.join (l.map (·.data.toList)) [32]
def scopesOk (l : List ByteArray) : Bool := decide ((scopesL (joinedL l)).2 = 0) && decide ((scopesL (joinedL l)).1.map bs = l)
def checkL (c : ClT) : Bool := withinL c.i.data.toList 1 64 33 && withinL c.s.data.toList 0 256 32 && decide (1 ≤ c.gr ∧ c.gr ≤ 3) && urlL c && scopesOk c.sc
def numC (b : Bool) : Int := if b = true then 0 else 111
end Go.Proofs.YtmimipgmhgalaaaGreatDoor.Spec
namespace Go.Proofs.YtmimipgmhgalaaaGreatDoor.Pure
open Go.RowKit Go.Proofs.YtmimipgmhgalaaaGreatDoorW.PrintWords Go.Proofs.YtmimipgmhgalaaaGreatDoor.Plain Go.Proofs.YtmimipgmhgalaaaGreatDoor.Spec Go.Proofs.YtmimipgmhgalaaaGreatDoor.PAll
set_option linter.unusedSimpArgs false
set_option linter.unusedVariables false
theorem btC (s : ByteArray) (i : Nat) (h : i < s.size) : bt s (i : Int) = (s[i].toNat : Int) := by
  unfold bt
  rw [dif_pos (by simpa using h)]
  rfl
theorem within_loop (s : ByteArray) (hs : s.size ≤ 140737488355328) (least most low : Nat) : ∀ (m i : Nat), i + m = s.size →
    Ev (fun k => client_within.l0 k s (least : Int) (most : Int) (low : Int) (s.size : Int) (i : Int)) ((s.data.toList.drop i).all (fun c => decide (low ≤ c.toNat) && decide (c.toNat ≤ 126)) && (decide (least ≤ s.size) && decide (s.size ≤ most))) := by
  intro m
  induction m with
  | zero =>
    intro i hi
    rw [List.drop_eq_nil_of_le (by rw [data_len]; omega), List.all_nil, Bool.true_and]
    by_cases h : least ≤ s.size
    · refine Ev.step (f := fun _ => some (decide ((s.size : Int) ≤ (most : Int)))) (fun k => ?_) (Ev.eq (Ev.now _) ?_)
      · simp only [client_within.l0]; rw [if_neg (by omega), if_pos (by omega)]
      · rw [decide_eq_true h, Bool.true_and, decide_eq_decide]; omega
    · refine Ev.step (f := fun _ => some false) (fun k => ?_) (Ev.eq (Ev.now _) ?_)
      · simp only [client_within.l0]; rw [if_neg (by omega), if_neg (by omega)]
      · rw [decide_eq_false h, Bool.false_and]
  | succ m ih =>
    intro i hi
    have hlt : i < s.size := by omega
    have hbt := btC s i hlt
    rw [drop_at s i hlt, List.all_cons]
    have ih1 := ih (i + 1) (by omega)
    generalize s[i] = c at *
    by_cases h1 : low ≤ c.toNat
    · by_cases h2 : c.toNat ≤ 126
      · rw [decide_eq_true h1, decide_eq_true h2, Bool.true_and, Bool.true_and]
        refine Ev.step (fun k => ?_) ih1
        simp only [client_within.l0]
        rw [if_pos (by omega), if_pos (by omega), if_pos (by omega), hbt, if_neg (by omega), if_neg (by omega), w64 (by omega) (by omega)]
        rfl
      · rw [decide_eq_false h2, Bool.and_false, Bool.false_and, Bool.false_and]
        refine Ev.step (f := fun _ => some false) (fun k => ?_) (Ev.now _)
        simp only [client_within.l0]
        rw [if_pos (by omega), if_pos (by omega), if_pos (by omega), hbt, if_neg (by omega), if_pos (by omega)]
    · rw [decide_eq_false h1, Bool.false_and, Bool.false_and, Bool.false_and]
      refine Ev.step (f := fun _ => some false) (fun k => ?_) (Ev.now _)
      simp only [client_within.l0]
      rw [if_pos (by omega), if_pos (by omega), if_pos (by omega), hbt, if_pos (by omega)]
theorem within_ev (s : ByteArray) (hs : s.size ≤ 140737488355328) (least most low : Nat) : Ev (fun k => client_within.f k s (least : Int) (most : Int) (low : Int)) (withinL s.data.toList least most low) := by
  unfold client_within.f withinL
  have := within_loop s hs least most low s.size 0 (by omega)
  rw [data_len]
  exact this
/-- What a client's check asks of the sizes. -/
structure Small (c : ClT) : Prop where
  i : c.i.size ≤ 140737488355328
  s : c.s.size ≤ 140737488355328
  u : c.u.size ≤ 140737488355328
  n : c.sc.length ≤ 140737488355328
  j : (joinedL c.sc).length ≤ 140737488355328
theorem check_ev (c : ClT) (hs : Small c) : Ev (fun k => client_Check.f k c.i c.s c.gr c.pg c.u c.sc) (numC (checkL c)) := by
  have h2 : ∀ b : Bool, Ev (fun k => client_Check.j2 k b c.i c.s c.gr c.pg c.u c.sc) (numC (!b && scopesOk c.sc)) := by
    intro b
    cases b with
    | true =>
      refine Ev.step (f := fun _ => some 111) (fun k => ?_) (Ev.eq (Ev.now _) rfl)
      simp only [client_Check.j2, if_true]
    | false =>
      refine Ev.step (f := fun k => ((strings_Join.f c.sc (⟨#[32]⟩ : ByteArray)).bind fun t526 => ((urlform_Scopes.f k t526).bind fun bt527 => (if bt527.2 = 0 then ((slices_Equal_string_string.f bt527.1 c.sc).bind fun t531 => (if t531 = true then (some 0) else (some 111))) else (some 111))))) (fun k => ?_) ?_
      · simp only [client_Check.j2]
        rw [if_neg (by simp)]
      · have hj : strings_Join.f c.sc (⟨#[32]⟩ : ByteArray) = some (bs (joinedL c.sc)) := by
          unfold strings_Join.f
          rw [if_pos ⟨hs.n, hs.j⟩]
          rfl
        rw [hj]
        refine Ev.bind (Ev.now _) (Ev.bind (scopes_ev _) ?_)
        rw [bs_data]
        unfold scopesOk
        by_cases h0 : (scopesL (joinedL c.sc)).2 = 0
        · refine Ev.pos h0 (Ev.bind (a := decide ((scopesL (joinedL c.sc)).1.map bs = c.sc)) (Ev.now _) ?_)
          rw [decide_eq_true h0]
          by_cases h1 : (scopesL (joinedL c.sc)).1.map bs = c.sc
          · rw [decide_eq_true h1]; exact Ev.pos rfl (Ev.now _)
          · rw [decide_eq_false h1]; exact Ev.neg (by simp) (Ev.now _)
        · rw [decide_eq_false h0]
          exact Ev.neg h0 (Ev.eq (Ev.now _) rfl)
  have h1 : ∀ b : Bool, Ev (fun k => client_Check.j1 k b c.i c.s c.gr c.pg c.u c.sc) (numC (!b && ((c.pg || decide (c.u.data.toList = [])) && scopesOk c.sc))) := by
    intro b
    cases b with
    | true =>
      refine Ev.step (f := fun _ => some 111) (fun k => ?_) (Ev.eq (Ev.now _) rfl)
      simp only [client_Check.j1, if_true]
    | false =>
      cases hp : c.pg with
      | true =>
        have := h2 false
        rw [hp] at this
        refine Ev.step (fun k => ?_) (Ev.eq this (by simp))
        simp only [client_Check.j1]
        rw [if_neg (by simp), if_pos trivial]
      | false =>
        have := h2 (c.u.toList != [])
        rw [hp] at this
        refine Ev.step (fun k => ?_) (Ev.eq this ?_)
        · simp only [client_Check.j1]
          rw [if_neg (by simp), if_neg (by simp)]
        · rw [toList_data]
          congr 1
          cases c.u.data.toList <;> simp
  have h0 : ∀ b : Bool, Ev (fun k => client_Check.j0 k b c.i c.s c.gr c.pg c.u c.sc) (numC (!b && (urlL c && scopesOk c.sc))) := by
    intro b
    cases b with
    | true =>
      refine Ev.step (f := fun _ => some 111) (fun k => ?_) (Ev.eq (Ev.now _) rfl)
      simp only [client_Check.j0, if_true]
    | false =>
      unfold urlL
      cases hp : c.pg with
      | false =>
        have := h1 false
        rw [hp] at this
        refine Ev.step (fun k => ?_) (Ev.eq this (by simp))
        simp only [client_Check.j0]
        rw [if_neg (by simp), if_neg (by simp)]
      | true =>
        rw [if_pos rfl]
        have hh := fun b => h1 b
        simp only [hp] at hh
        by_cases g1 : Go.bits .and .i64 c.gr 2 = 0
        · refine Ev.step (fun k => ?_) (Ev.eq (hh true) (by simp [g1]))
          simp only [client_Check.j0]
          rw [if_neg (by simp), if_pos trivial, if_pos g1]
        · by_cases g2 : c.s.data.toList = []
          · refine Ev.step (fun k => ?_) (Ev.eq (hh true) (by simp [g2]))
            simp only [client_Check.j0]
            rw [if_neg (by simp), if_pos trivial, if_neg g1, if_pos (by rw [toList_data]; exact g2)]
          · refine Ev.step (f := fun k => ((client_within.f k c.u 9 256 33).bind fun t524 => (if t524 = true then ((strings_HasPrefix.f c.u (⟨#[104, 116, 116, 112, 115, 58, 47, 47]⟩ : ByteArray)).bind fun t525 => (client_Check.j1 k (!t525) c.i c.s c.gr true c.u c.sc)) else (client_Check.j1 k true c.i c.s c.gr true c.u c.sc)))) (fun k => ?_) ?_
            · simp only [client_Check.j0]
              rw [if_neg (by simp), if_pos trivial, if_neg g1, if_neg (by rw [toList_data]; exact g2)]
            · refine Ev.bind (within_ev c.u hs.u 9 256 33) ?_
              cases g3 : withinL c.u.data.toList 9 256 33 with
              | false => exact Ev.neg (by simp) (Ev.eq (hh true) (by simp))
              | true =>
                refine Ev.pos rfl (Ev.bind (a := Lib.hasPrefix c.u.data.toList httpsL) (Ev.now _) (Ev.eq (hh _) ?_))
                simp [g1, g2]
  unfold client_Check.f
  refine Ev.bind (within_ev c.i hs.i 1 64 33) ?_
  unfold checkL
  cases e1 : withinL c.i.data.toList 1 64 33 with
  | false => exact Ev.neg (by simp) (Ev.eq (h0 true) (by simp))
  | true =>
    refine Ev.pos rfl (Ev.bind (within_ev c.s hs.s 0 256 32) ?_)
    cases e2 : withinL c.s.data.toList 0 256 32 with
    | false => exact Ev.neg (by simp) (Ev.eq (h0 true) (by simp))
    | true =>
      refine Ev.pos rfl ?_
      by_cases g1 : c.gr < 1
      · refine Ev.pos g1 (Ev.eq (h0 true) ?_)
        rw [decide_eq_false (by omega)]; rfl
      · refine Ev.neg g1 (Ev.eq (h0 _) ?_)
        by_cases g2 : c.gr > 3
        · rw [decide_eq_true g2, decide_eq_false (by omega)]; rfl
        · rw [decide_eq_false g2, decide_eq_true (by omega)]; simp
end Go.Proofs.YtmimipgmhgalaaaGreatDoor.Pure
