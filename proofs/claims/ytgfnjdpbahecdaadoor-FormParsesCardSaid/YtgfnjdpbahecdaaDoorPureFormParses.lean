/-
  THE PURE LAW of FormParses: every body's pairs, or the error with its place; the lists are nobody else's.
-/
import Derived.Test.YtgfnjdpbahecdaaDoorPAllx9
import Derived.Test.YtgfnjdpbahecdaaDoorPure03b
namespace Go.Proofs.YtgfnjdpbahecdaaDoor.Pure
open Go.RowKit Go.Proofs.YtgfnjdpbahecdaaDoorW.PrintWords Go.Proofs.YtgfnjdpbahecdaaDoor.Plain Go.Proofs.YtgfnjdpbahecdaaDoor.Spec Go.Proofs.YtgfnjdpbahecdaaDoor.PAll
set_option linter.unusedSimpArgs false
set_option linter.unusedVariables false
theorem theirs_ev (l : List (ByteArray × ByteArray)) (hl : l.length ≤ 4000000000000) : Ev (fun k => wicketlaw03_theirs.f k (l.map mk61)) (l.map mk34) := by
  have H : ∀ (m i : Nat), i + m = l.length → Ev (fun k => wicketlaw03_theirs.l0 k (l.map mk61) ((l.take i).map mk34) (i : Int)) (l.map mk34) := by
    intro m
    induction m with
    | zero =>
      intro i hi
      have hal : (l.map mk61).length = l.length := List.length_map ..
      refine Ev.step (f := fun _ => some _) (fun k => ?_) (Ev.now _)
      simp only [wicketlaw03_theirs.l0]
      rw [if_neg (by omega), List.take_of_length_le (by omega)]
    | succ m ih =>
      intro i hi
      have hlt : i < l.length := by omega
      have hal : (l.map mk61).length = l.length := List.length_map ..
      have hal2 : ((l.take i).map mk34).length = i := by rw [List.length_map, List.length_take]; omega
      have hrd : rd_T61 (l.map mk61) (i : Int) = mk61 l[i] := by simp [rd_T61, hlt]
      refine Ev.step (fun k => ?_) (ih (i + 1) (by omega))
      simp only [wicketlaw03_theirs.l0]
      rw [if_pos (by omega), if_pos (by omega), if_pos (by omega), hrd, w64 (by omega) (by omega), List.take_succ_eq_append_getElem hlt, List.map_append]
      rfl
  exact H l.length 0 (by omega)
theorem pairs_ev (a : List S34) (hl : a.length ≤ 4000000000000) : Ev (fun k => wicketlaw03_pairs.f k a a) true := by
  have H : ∀ (m i : Nat), i + m = a.length → Ev (fun k => wicketlaw03_pairs.l0 k a a (i : Int)) true := by
    intro m
    induction m with
    | zero =>
      intro i hi
      refine Ev.step (f := fun _ => some true) (fun k => ?_) (Ev.now _)
      simp only [wicketlaw03_pairs.l0]
      rw [if_neg (by omega)]
    | succ m ih =>
      intro i hi
      refine Ev.step (fun k => ?_) (ih (i + 1) (by omega))
      simp only [wicketlaw03_pairs.l0]
      rw [if_pos (by omega), if_pos (by omega), if_pos (by omega), if_neg (by simp), w64 (by omega) (by omega)]
      rfl
  unfold wicketlaw03_pairs.f
  exact Ev.pos rfl (H a.length 0 (by omega))
theorem fp_more (s : ByteArray) (hs : s.size ≤ 140737488351232) (c : List S34) (hc : c.length = (parse s.data.toList).1.length) :
    ∀ (m i : Nat) (x14 : List S34), i + m = 64 → x14.length = c.length + i → Ev (fun k => wicketlaw03_FormParses.l1 k s ((parse s.data.toList).1.map mk34) (parse s.data.toList).2.1 ((parse s.data.toList).1.map mk34) x14 (i : Int)) true := by
  have hpl := parse_len s.data.toList
  have hmp : ((parse s.data.toList).1.map mk34).length = (parse s.data.toList).1.length := List.length_map ..
  intro m
  induction m with
  | zero =>
    intro i x14 hi hx
    refine Ev.step (f := fun k => ((urlform_Parse.f k s).bind fun bt213 => ((wicketlaw03_pairs.f k ((parse s.data.toList).1.map mk34) ((parse s.data.toList).1.map mk34)).bind fun t218 => (if t218 = true then ((wicketlaw03_num.f bt213.2.1).bind fun t219 => (if t219 = (parse s.data.toList).2.1 then ((wicketlaw03_pairs.f k bt213.1 ((parse s.data.toList).1.map mk34)).bind fun t220 => (if t220 = true then (if (x14.length : Int) = (wrap64 ((((parse s.data.toList).1.map mk34).length : Int) + 64)) then ((wicketlaw03_live.f k).bind fun t221 => (some t221)) else (some false)) else (some false))) else (some false))) else (some false))))) (fun k => ?_) ?_
    · simp only [wicketlaw03_FormParses.l1]
      rw [if_neg (by omega)]
    · refine Ev.bind (parse_ev s (by omega)) (Ev.bind (pairs_ev _ (by omega)) (Ev.pos rfl (Ev.bind (Ev.now _) (Ev.pos rfl (Ev.bind (pairs_ev _ (by show ((parse s.data.toList).1.map mk34).length ≤ _; omega)) (Ev.pos rfl (Ev.pos ?_ (Ev.bind live_ev (Ev.now _)))))))))
      rw [w64 (by omega) (by omega)]
      omega
  | succ m ih =>
    intro i x14 hi hx
    refine Ev.step (fun k => ?_) (ih (i + 1) (x14 ++ [⟨⟨#[122]⟩, ⟨#[]⟩⟩]) (by omega) (by rw [List.length_append, List.length_singleton]; omega))
    simp only [wicketlaw03_FormParses.l1]
    rw [if_pos (by omega), if_pos (by omega), w64 (by omega) (by omega)]
    rfl
theorem fp_spoil (s : ByteArray) (hs : s.size ≤ 140737488351232) : ∀ (m i : Nat) (c : List S34), c.length = (parse s.data.toList).1.length → i + m = c.length → Ev (fun k => wicketlaw03_FormParses.l0 k s c ((parse s.data.toList).1.map mk34) (parse s.data.toList).2.1 ((parse s.data.toList).1.map mk34) (i : Int)) true := by
  have hpl := parse_len s.data.toList
  intro m
  induction m with
  | zero =>
    intro i c hc hi
    refine Ev.step (fun k => ?_) (fp_more s hs c hc 64 0 c (by omega) (by omega))
    simp only [wicketlaw03_FormParses.l0]
    rw [if_neg (by omega)]
    rfl
  | succ m ih =>
    intro i c hc hi
    refine Ev.step (fun k => ?_) (ih (i + 1) (c.set i ⟨⟨#[120]⟩, ⟨#[121]⟩⟩) (by rw [List.length_set]; exact hc) (by rw [List.length_set]; omega))
    simp only [wicketlaw03_FormParses.l0]
    rw [if_pos (by omega), if_pos (by omega), w64 (by omega) (by omega)]
    rfl
theorem FormParses (s : ByteArray) (hs : s.size ≤ 140737488351232) : ∃ k, wicketlaw03_FormParses.f k s = some true := by
  refine Ev.rounds ?_
  have hpl := parse_len s.data.toList
  have hmp : ((parse s.data.toList).1.map mk34).length = (parse s.data.toList).1.length := List.length_map ..
  unfold wicketlaw03_FormParses.f
  refine Ev.bind (parse_ev s (by omega)) (Ev.bind (parse_ev s (by omega)) (Ev.bind (refparse_ev s) (Ev.bind (theirs_ev _ (by show (parse s.data.toList).1.length ≤ _; omega)) (Ev.bind (Ev.now _) (Ev.pos rfl (Ev.bind (Ev.now _) (Ev.pos rfl (Ev.pos rfl (Ev.pos rfl (Ev.bind (pairs_ev _ (by show ((parse s.data.toList).1.map mk34).length ≤ _; omega)) (Ev.pos rfl (Ev.bind (pairs_ev _ (by show ((parse s.data.toList).1.map mk34).length ≤ _; omega)) ?_))))))))))))
  refine Ev.step (fun k => ?_) (fp_spoil s hs (parse s.data.toList).1.length 0 ((parse s.data.toList).1.map mk34) (by omega) (by omega))
  simp only [wicketlaw03_FormParses.j0]
  rw [if_neg (by simp)]
  rfl
end Go.Proofs.YtgfnjdpbahecdaaDoor.Pure
