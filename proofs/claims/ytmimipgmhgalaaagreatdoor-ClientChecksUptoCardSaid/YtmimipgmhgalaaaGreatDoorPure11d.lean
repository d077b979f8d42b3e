/-
  What the reference's Check computes: the same as the client's.
-/
import Derived.Test.YtmimipgmhgalaaaGreatDoorPure11c
import Derived.Test.YtmimipgmhgalaaaGreatDoorPure11r
namespace Go.Proofs.YtmimipgmhgalaaaGreatDoor.Pure
open Go.RowKit Go.Proofs.YtmimipgmhgalaaaGreatDoorW.PrintWords Go.Proofs.YtmimipgmhgalaaaGreatDoor.Plain Go.Proofs.YtmimipgmhgalaaaGreatDoor.Spec Go.Proofs.YtmimipgmhgalaaaGreatDoor.PAll
set_option linter.unusedSimpArgs false
set_option linter.unusedVariables false
def urlR (c : ClT) : Bool := if c.pg = true then withinL c.u.data.toList 9 256 33 && Lib.hasPrefix c.u.data.toList httpsL else decide (c.u.data.toList = [])
def sixR (c : ClT) : Bool := if c.pg = true then decide (2 ≤ c.gr) && decide (c.s.data.toList ≠ []) else true
theorem url_ev (c : ClT) (hs : Small c) : Ev (fun k => wicketref11_url.f k c.i c.s c.gr c.pg c.u c.sc) (urlR c) := by
  unfold wicketref11_url.f urlR
  cases hp : c.pg with
  | false =>
    refine Ev.neg (by simp) (Ev.eq (Ev.now _) ?_)
    rw [if_neg (by simp), toList_data]
    cases c.u.data.toList <;> simp
  | true =>
    rw [if_pos rfl]
    refine Ev.pos rfl (Ev.bind (bytes_ev c.u hs.u 9 256 33) ?_)
    cases e : withinL c.u.data.toList 9 256 33 with
    | false => exact Ev.neg (by simp) (Ev.eq (Ev.now _) (by simp))
    | true =>
      have hl : 9 ≤ c.u.size := by
        have := e
        unfold withinL at this
        simp only [Bool.and_eq_true, decide_eq_true_eq, data_len] at this
        exact this.2.1
      refine Ev.pos rfl (Ev.pos (by omega) (Ev.pos (by omega) (Ev.eq (Ev.now _) ?_)))
      rw [toList_data, extractS _ _ _ (by omega), Bool.true_and, List.drop_zero]
      unfold Lib.hasPrefix httpsL
      rw [Bool.eq_iff_iff, beq_iff_eq, List.isPrefixOf_iff_prefix, List.prefix_iff_eq_take]
      exact ⟨fun e => e.symm, fun e => e.symm⟩
theorem bits_two (g : Int) (h1 : 1 ≤ g) (h3 : g ≤ 3) : decide (Go.bits .and .i64 g 2 ≠ 0) = decide (2 ≤ g) := by
  have : g = 1 ∨ g = 2 ∨ g = 3 := by omega
  rcases this with rfl | rfl | rfl <;> rfl
theorem check_same (c : ClT) : (withinL c.i.data.toList 1 64 33 && (withinL c.s.data.toList 0 256 32 && (decide (1 ≤ c.gr ∧ c.gr ≤ 3) && (sixR c && (urlR c && scopesOk c.sc))))) = checkL c := by
  unfold checkL sixR urlR urlL
  by_cases h : 1 ≤ c.gr ∧ c.gr ≤ 3
  · rw [bits_two c.gr h.1 h.2]
    cases c.pg <;> simp [Bool.and_assoc]
  · rw [decide_eq_false h]; simp
theorem refcheck_ev (c : ClT) (hs : Small c) : Ev (fun k => wicketref11_Check.f k c.i c.s c.gr c.pg c.u c.sc) (numC (checkL c)) := by
  have hj1 : ∀ b5 b6 : Bool, Ev (fun k => wicketref11_Check.j1 k b5 b6 c.i c.s c.gr c.pg c.u c.sc) (numC (withinL c.i.data.toList 1 64 33 && (withinL c.s.data.toList 0 256 32 && (decide (1 ≤ c.gr ∧ c.gr ≤ 3) && (b6 && (urlR c && b5)))))) := by
    intro b5 b6
    refine Ev.step (f := fun k => (wicketref11_bytes.f k c.i 33 126 1 64).bind fun t330 => if t330 = true then ((wicketref11_bytes.f k c.s 32 126 0 256).bind fun t331 => if t331 = true then (if c.gr ≥ 1 then (if c.gr ≤ 3 then (if b6 = true then ((wicketref11_url.f k c.i c.s c.gr c.pg c.u c.sc).bind fun t332 => if t332 = true then (if b5 = true then some 0 else some 111) else some 111) else some 111) else some 111) else some 111) else some 111) else some 111) (fun k => by simp only [wicketref11_Check.j1]) ?_
    refine Ev.bind (bytes_ev c.i hs.i 1 64 33) ?_
    cases withinL c.i.data.toList 1 64 33 with
    | false => exact Ev.neg (by simp) (Ev.eq (Ev.now _) (by simp [numC]))
    | true =>
      refine Ev.pos rfl (Ev.bind (bytes_ev c.s hs.s 0 256 32) ?_)
      cases withinL c.s.data.toList 0 256 32 with
      | false => exact Ev.neg (by simp) (Ev.eq (Ev.now _) (by simp [numC]))
      | true =>
        refine Ev.pos rfl ?_
        by_cases g1 : c.gr ≥ 1
        · by_cases g2 : c.gr ≤ 3
          · rw [decide_eq_true (show 1 ≤ c.gr ∧ c.gr ≤ 3 from ⟨g1, g2⟩)]
            refine Ev.pos g1 (Ev.pos g2 ?_)
            cases b6 with
            | false => exact Ev.neg (by simp) (Ev.eq (Ev.now _) (by simp [numC]))
            | true =>
              refine Ev.pos rfl (Ev.bind (url_ev c hs) ?_)
              cases urlR c with
              | false => exact Ev.neg (by simp) (Ev.eq (Ev.now _) (by simp [numC]))
              | true =>
                cases b5 with
                | false => exact Ev.pos rfl (Ev.neg (by simp) (Ev.eq (Ev.now _) (by simp [numC])))
                | true => exact Ev.pos rfl (Ev.pos rfl (Ev.eq (Ev.now _) (by simp [numC])))
          · exact Ev.pos g1 (Ev.neg g2 (Ev.eq (Ev.now _) (by rw [decide_eq_false (by omega)]; simp [numC])))
        · exact Ev.neg g1 (Ev.eq (Ev.now _) (by rw [decide_eq_false (by omega)]; simp [numC]))
  have hj0 : ∀ b5 : Bool, Ev (fun k => wicketref11_Check.j0 k b5 c.i c.s c.gr c.pg c.u c.sc) (numC (withinL c.i.data.toList 1 64 33 && (withinL c.s.data.toList 0 256 32 && (decide (1 ≤ c.gr ∧ c.gr ≤ 3) && (sixR c && (urlR c && b5)))))) := by
    intro b5
    refine Ev.step (f := fun k => if c.pg = true then (if c.gr ≥ 2 then wicketref11_Check.j1 k b5 (c.s.toList != []) c.i c.s c.gr c.pg c.u c.sc else wicketref11_Check.j1 k b5 false c.i c.s c.gr c.pg c.u c.sc) else wicketref11_Check.j1 k b5 true c.i c.s c.gr c.pg c.u c.sc) (fun k => by simp only [wicketref11_Check.j0]) ?_
    cases hp : c.pg with
    | false =>
      refine Ev.neg (by simp) ?_
      have := hj1 b5 true
      rw [hp] at this
      exact Ev.eq this (by unfold sixR; rw [hp]; simp)
    | true =>
      refine Ev.pos rfl ?_
      by_cases g : c.gr ≥ 2
      · have := hj1 b5 (c.s.toList != [])
        rw [hp] at this
        refine Ev.pos g (Ev.eq this ?_)
        unfold sixR
        rw [if_pos hp, toList_data, decide_eq_true (show 2 ≤ c.gr from g)]
        rw [show (c.s.data.toList != ([] : List UInt8)) = (true && decide (c.s.data.toList ≠ [])) from by cases c.s.data.toList <;> simp [bne]]
      · have := hj1 b5 false
        rw [hp] at this
        refine Ev.neg g (Ev.eq this ?_)
        unfold sixR
        rw [if_pos hp, decide_eq_false (show ¬2 ≤ c.gr from g)]
        simp
  unfold wicketref11_Check.f
  refine Ev.bind (joined_ev c.sc hs.n hs.j) (Ev.bind (refscopes_ev _) ?_)
  rw [bs_data, ← check_same c]
  unfold scopesOk
  by_cases h0 : (scopesL (joinedL c.sc)).2 = 0
  · refine Ev.pos h0 (Ev.bind (texts_ev _ _ ?_) ?_)
    · show ((scopesL (joinedL c.sc)).1.map bs).length ≤ _
      rw [List.length_map]
      have := scopesL_len (joinedL c.sc)
      omega
    · rw [decide_eq_true h0, Bool.true_and]
      exact hj0 _
  · refine Ev.neg h0 ?_
    rw [decide_eq_false h0, Bool.false_and]
    exact hj0 _
end Go.Proofs.YtmimipgmhgalaaaGreatDoor.Pure
