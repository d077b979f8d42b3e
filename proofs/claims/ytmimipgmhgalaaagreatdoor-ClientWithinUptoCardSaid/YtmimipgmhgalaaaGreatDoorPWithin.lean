/-
  What Within computes, the client's and the reference's (as in the forms' own texts).
-/
import Derived.Test.YtmimipgmhgalaaaGreatDoorPAllx3
import Derived.Test.YtmimipgmhgalaaaGreatDoorPAllx11
import Derived.Test.YtmimipgmhgalaaaGreatDoorPlain
namespace Go.Proofs.YtmimipgmhgalaaaGreatDoor.Pure
open Go.RowKit Go.Proofs.YtmimipgmhgalaaaGreatDoorW.PrintWords Go.Proofs.YtmimipgmhgalaaaGreatDoor.Plain Go.Proofs.YtmimipgmhgalaaaGreatDoor.Spec Go.Proofs.YtmimipgmhgalaaaGreatDoor.PAll
set_option linter.unusedSimpArgs false
set_option linter.unusedVariables false
theorem index_ev (l : List ByteArray) (x : ByteArray) (hl : l.length ≤ 8796093021952) : ∀ (m i : Nat), i + m = l.length →
    ∃ r : Int, Ev (fun k => slices_Index_string_string.l0 k l x (l.length : Int) (i : Int)) r ∧ (0 ≤ r ↔ x ∈ l.drop i) := by
  intro m
  induction m with
  | zero =>
    intro i hi
    refine ⟨-1, Ev.step (f := fun _ => some (-1)) (fun k => ?_) (Ev.now _), ?_⟩
    · simp only [slices_Index_string_string.l0]; rw [if_neg (by omega)]
    · rw [List.drop_eq_nil_of_le (by omega)]; simp
  | succ m ih =>
    intro i hi
    have hlt : i < l.length := by omega
    by_cases hx : x = l[i]
    · refine ⟨i, Ev.step (f := fun _ => some (i : Int)) (fun k => ?_) (Ev.now _), ?_⟩
      · simp only [slices_Index_string_string.l0]; rw [if_pos (by omega), if_pos (by omega), if_pos (by omega), rdOf_get _ _ _ hlt, if_pos (by rw [hx])]
      · rw [drop_cons _ _ hlt, List.mem_cons]; exact ⟨fun _ => .inl hx, fun _ => by omega⟩
    · obtain ⟨r, hr, hm⟩ := ih (i + 1) (by omega)
      refine ⟨r, Ev.step (f := fun k => slices_Index_string_string.l0 k l x (l.length : Int) ((i + 1 : Nat) : Int)) (fun k => ?_) hr, ?_⟩
      · simp only [slices_Index_string_string.l0]
        rw [if_pos (by omega), if_pos (by omega), if_pos (by omega), rdOf_get _ _ _ hlt, if_neg (fun h => hx (toList_inj h)), w64 (by omega) (by omega)]
        rfl
      · rw [hm, drop_cons _ _ hlt, List.mem_cons]; exact ⟨.inr, fun h => h.resolve_left hx⟩
attribute [local instance] Classical.propDecidable
theorem contains_ev (l : List ByteArray) (x : ByteArray) (hl : l.length ≤ 8796093021952) : Ev (fun k => slices_Contains_string_string.f k l x) (decide (x ∈ l)) := by
  obtain ⟨r, hr, hm⟩ := index_ev l x hl l.length 0 (by omega)
  unfold slices_Contains_string_string.f slices_Index_string_string.f
  refine Ev.bind (a := r) hr ?_
  refine Ev.eq (Ev.now _) ?_
  rw [decide_eq_decide]
  simpa using hm
theorem uwithin_ev (l all : List ByteArray) (hl : l.length ≤ 8796093021952) (ha : all.length ≤ 8796093021952) : ∀ (m i : Nat), i + m = l.length →
    Ev (fun k => urlform_Within.l0 k all l (l.length : Int) (i : Int)) (decide (∀ s, s ∈ l.drop i → s ∈ all)) := by
  intro m
  induction m with
  | zero =>
    intro i hi
    refine Ev.step (f := fun _ => some true) (fun k => ?_) (Ev.eq (Ev.now _) ?_)
    · simp only [urlform_Within.l0]; rw [if_neg (by omega)]
    · rw [List.drop_eq_nil_of_le (by omega)]; simp
  | succ m ih =>
    intro i hi
    have hlt : i < l.length := by omega
    have hc := contains_ev all l[i] ha
    refine Ev.step (f := fun k => (slices_Contains_string_string.f k all l[i]).bind fun t => if t = true then urlform_Within.l0 k all l (l.length : Int) ((i + 1 : Nat) : Int) else some false) (fun k => ?_) ?_
    · simp only [urlform_Within.l0]
      rw [if_pos (by omega), if_pos (by omega), if_pos (by omega), rdOf_get _ _ _ hlt, w64 (by omega) (by omega)]
      rfl
    · refine Ev.bind hc ?_
      by_cases hx : l[i] ∈ all
      · simp only [hx, decide_true, if_true]
        refine Ev.eq (ih (i + 1) (by omega)) ?_
        rw [decide_eq_decide, drop_cons _ _ hlt]; simp only [List.mem_cons, forall_eq_or_imp, hx, true_and]
      · simp only [hx, decide_false, Bool.false_eq_true, if_false]
        refine Ev.eq (Ev.now _) ?_
        rw [drop_cons _ _ hlt]; simp only [List.mem_cons, forall_eq_or_imp, hx, false_and, decide_false]
theorem ref_inner (l all : List ByteArray) (hl : l.length ≤ 8796093021952) (ha : all.length ≤ 8796093021952) (i : Nat) (hi : i < l.length) (r : Bool)
    (hr : l[i] ∈ all → Ev (fun k => wicketref03_Within.l0 k l all ((i + 1 : Nat) : Int)) r) (hr' : l[i] ∉ all → r = false) : ∀ (m j : Nat) (b : Bool), j + m = all.length →
    (l[i] ∈ all ↔ b = true ∨ l[i] ∈ all.drop j) → Ev (fun k => wicketref03_Within.l1 k l all (i : Int) b (j : Int)) r := by
  intro m
  induction m with
  | zero =>
    intro j b hj hm
    rw [List.drop_eq_nil_of_le (by omega)] at hm
    cases b with
    | true =>
      refine Ev.step (fun k => ?_) (hr (hm.2 (.inl rfl)))
      simp only [wicketref03_Within.l1]; rw [if_neg (by omega), if_pos trivial, w64 (by omega) (by omega)]; rfl
    | false =>
      have hno : l[i] ∉ all := fun h => by simpa using hm.1 h
      refine Ev.step (f := fun _ => some false) (fun k => ?_) (Ev.eq (Ev.now _) (hr' hno).symm)
      simp only [wicketref03_Within.l1]; rw [if_neg (by omega)]; rfl
  | succ m ih =>
    intro j b hj hm
    have hlt : j < all.length := by omega
    cases b with
    | true =>
      refine Ev.step (fun k => ?_) (ih (j + 1) true (by omega) ⟨fun _ => .inl rfl, fun _ => hm.2 (.inl rfl)⟩)
      simp only [wicketref03_Within.l1]; rw [if_pos (by omega), if_pos trivial, w64 (by omega) (by omega)]; rfl
    | false =>
      refine Ev.step (fun k => ?_) (ih (j + 1) (decide (all[j] = l[i])) (by omega) ?_)
      · simp only [wicketref03_Within.l1]
        rw [if_pos (by omega), if_neg (by simp), if_pos (by omega), if_pos (by omega), if_pos (by omega), rdOf_get _ _ _ hlt, rdOf_get _ _ _ hi, toList_beq, w64 (by omega) (by omega)]; rfl
      · rw [hm, drop_cons _ _ hlt, List.mem_cons]
        simp [eq_comm]
theorem rwithin_ev (l all : List ByteArray) (hl : l.length ≤ 8796093021952) (ha : all.length ≤ 8796093021952) : ∀ (m i : Nat), i + m = l.length →
    Ev (fun k => wicketref03_Within.l0 k l all (i : Int)) (decide (∀ s, s ∈ l.drop i → s ∈ all)) := by
  intro m
  induction m with
  | zero =>
    intro i hi
    refine Ev.step (f := fun _ => some true) (fun k => ?_) (Ev.eq (Ev.now _) ?_)
    · simp only [wicketref03_Within.l0]; rw [if_neg (by omega)]
    · rw [List.drop_eq_nil_of_le (by omega)]; simp
  | succ m ih =>
    intro i hi
    have hlt : i < l.length := by omega
    refine Ev.step (f := fun k => wicketref03_Within.l1 k l all (i : Int) false 0) (fun k => ?_) ?_
    · simp only [wicketref03_Within.l0]; rw [if_pos (by omega)]
    · refine ref_inner l all hl ha i hlt _ (fun hx => Ev.eq (ih (i + 1) (by omega)) ?_) (fun hx => ?_) all.length 0 false (by omega) (by simp)
      · rw [decide_eq_decide, drop_cons _ _ hlt]; simp only [List.mem_cons, forall_eq_or_imp, hx, true_and]
      · rw [drop_cons _ _ hlt]; simp only [List.mem_cons, forall_eq_or_imp, hx, false_and, decide_false]
end Go.Proofs.YtmimipgmhgalaaaGreatDoor.Pure
