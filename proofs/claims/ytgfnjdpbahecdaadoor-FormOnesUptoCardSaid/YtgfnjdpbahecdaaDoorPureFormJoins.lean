/-
  THE PURE LAW of FormJoins: two bodies with & between are the pairs of the one and then of the other.
-/
import Derived.Test.YtgfnjdpbahecdaaDoorPAllx13
import Derived.Test.YtgfnjdpbahecdaaDoorPure03a
namespace Go.Proofs.YtgfnjdpbahecdaaDoor.Pure
open Go.RowKit Go.Proofs.YtgfnjdpbahecdaaDoorW.PrintWords Go.Proofs.YtgfnjdpbahecdaaDoor.Plain Go.Proofs.YtgfnjdpbahecdaaDoor.Spec Go.Proofs.YtgfnjdpbahecdaaDoor.PAll
set_option linter.unusedSimpArgs false
set_option linter.unusedVariables false
theorem pairs_evJ (a : List S34) (hl : a.length ≤ 4000000000000) : Ev (fun k => wicketlaw03_pairs.f k a a) true := by
  have H : ∀ (m i : Nat), i + m = a.length → Ev (fun k => wicketlaw03_pairs.l0 k a a (i : Int)) true := by
    intro m
    induction m with
    | zero =>
      intro i hi
      refine Ev.step (f := fun _ => some true) (fun k => ?_) (Ev.now _)
      simp only [wicketlaw03_pairs.l0]
      rw [if_neg (by omega)]
    | succ m ih =>
      intro i hi
      refine Ev.step (fun k => ?_) (ih (i + 1) (by omega))
      simp only [wicketlaw03_pairs.l0]
      rw [if_pos (by omega), if_pos (by omega), if_pos (by omega), if_neg (by simp), w64 (by omega) (by omega)]
      rfl
  unfold wicketlaw03_pairs.f
  exact Ev.pos rfl (H a.length 0 (by omega))
/-- Two bodies that are read, with & between. -/
theorem parse_join (a b : List UInt8) (ha : (parse a).2.1 = 0) (hb : (parse b).2.1 = 0) :
    (16384 < a.length + b.length + 1 → (parse (a ++ 38 :: b)).2.1 = 1) ∧ (a.length + b.length + 1 ≤ 16384 →
      (64 < (parse a).1.length + (parse b).1.length → (parse (a ++ 38 :: b)).2.1 = 32) ∧ ((parse a).1.length + (parse b).1.length ≤ 64 → (parse (a ++ 38 :: b)).2.1 = 0 ∧ (parse (a ++ 38 :: b)).1 = (parse a).1 ++ (parse b).1)) := by
  have hl : (a ++ 38 :: b).length = a.length + b.length + 1 := by simp; omega
  have ha16 : ¬ 16384 < a.length := fun h => by unfold parse at ha; rw [if_pos h] at ha; simp at ha
  have hb16 : ¬ 16384 < b.length := fun h => by unfold parse at hb; rw [if_pos h] at hb; simp at hb
  refine ⟨fun h => ?_, fun h => ?_⟩
  · unfold parse; rw [if_pos (by omega)]
  · have ea : parse a = parseL (splitL 38 a) 0 [] := if_neg ha16
    have eb : parse b = parseL (splitL 38 b) 0 [] := if_neg hb16
    have ej : parse (a ++ 38 :: b) = parseL (splitL 38 b) (0 + widthL (splitL 38 a)) (parse a).1 := by
      unfold parse
      rw [if_neg (by omega), if_neg (by omega), splitL_append]
      exact parseL_app _ _ _ _ (by rw [← ea]; exact ha)
    have hs := parseL_shift (splitL 38 b) 0 (0 + widthL (splitL 38 a)) (parse a).1 [] (by have := parse_len a; simpa using this) (by simp) (by rw [← eb]; exact hb)
    rw [List.append_nil, ← ej, ← eb] at hs
    rcases hs with ⟨h1, h2, h3⟩ | ⟨h1, h2⟩
    · exact ⟨fun hc => by omega, fun _ => ⟨h1, h3⟩⟩
    · exact ⟨fun _ => h1, fun hc => by omega⟩
theorem FormJoins (a b : ByteArray) (ha : a.size ≤ 140737488351232) (hb : b.size ≤ 140737488351232) : ∃ k, wicketlaw03_FormJoins.f k a b = some true := by
  refine Ev.rounds ?_
  have hla := parse_len a.data.toList
  have hlb := parse_len b.data.toList
  have hma : ((parse a.data.toList).1.map mk34).length = (parse a.data.toList).1.length := List.length_map ..
  have hmb : ((parse b.data.toList).1.map mk34).length = (parse b.data.toList).1.length := List.length_map ..
  unfold wicketlaw03_FormJoins.f
  refine Ev.bind (parse_ev a (by omega)) (Ev.bind (parse_ev b (by omega)) (Ev.bind (Ev.now _) ?_))
  show Ev (fun n => if (parse a.data.toList).2.1 = 0 then _ else _) true
  have hlive : ∀ (x5 x8 : List S34), Ev (fun k => wicketlaw03_FormJoins.j0 k a b x5 x8 true) true := by
    intro x5 x8
    apply Ev.step
    · intro k
      simp only [wicketlaw03_FormJoins.j0, if_true]
      rfl
    · exact Ev.bind live_ev (Ev.now _)
  by_cases h1 : (parse a.data.toList).2.1 = 0
  · refine Ev.pos h1 (Ev.bind (Ev.now _) ?_)
    show Ev (fun k => wicketlaw03_FormJoins.j0 k a b ((parse a.data.toList).1.map mk34) ((parse b.data.toList).1.map mk34) ((parse b.data.toList).2.1 != 0)) true
    by_cases h2 : (parse b.data.toList).2.1 = 0
    · rw [h2]
      have hj := parse_join a.data.toList b.data.toList h1 h2
      rw [data_len, data_len] at hj
      have hd : ((a ++ (⟨#[38]⟩ : ByteArray)) ++ b).data.toList = a.data.toList ++ 38 :: b.data.toList := by simp
      have hz0 : (a ++ (⟨#[38]⟩ : ByteArray)).size = a.size + 1 := by rw [ByteArray.size_append]; rfl
      have hz : ((a ++ (⟨#[38]⟩ : ByteArray)) ++ b).size = a.size + 1 + b.size := by rw [ByteArray.size_append, hz0]
      have hp := parse_ev ((a ++ (⟨#[38]⟩ : ByteArray)) ++ b)
      have hlj := parse_len (a.data.toList ++ 38 :: b.data.toList)
      have ha16 : a.size ≤ 16384 := Nat.le_of_not_lt fun h => by unfold parse at h1; rw [data_len, if_pos h] at h1; simp at h1
      have hb16 : b.size ≤ 16384 := Nat.le_of_not_lt fun h => by unfold parse at h2; rw [data_len, if_pos h] at h2; simp at h2
      rw [hz, hd] at hp
      apply Ev.step
      · intro k
        simp only [wicketlaw03_FormJoins.j0]
        rw [if_neg (by simp), if_pos (by omega), if_pos (by omega), w64 (x := (a.size : Int) + (b.size : Int)) (by omega) (by omega), w64 (by omega) (by omega), w64 (by omega) (by omega)]
      · refine Ev.bind (hp (by omega)) ?_
        by_cases h3 : 16384 < a.size + b.size + 1
        · refine Ev.pos (by omega) (Ev.bind (Ev.now _) (Ev.eq (Ev.now _) ?_))
          show ((parse (a.data.toList ++ 38 :: b.data.toList)).2.1 == 1) = true
          rw [hj.1 h3]; rfl
        · refine Ev.neg (by omega) ?_
          have hj2 := hj.2 (by omega)
          by_cases h4 : 64 < (parse a.data.toList).1.length + (parse b.data.toList).1.length
          · refine Ev.pos (by omega) (Ev.bind (Ev.now _) (Ev.eq (Ev.now _) ?_))
            show ((parse (a.data.toList ++ 38 :: b.data.toList)).2.1 == 32) = true
            rw [hj2.1 h4]; rfl
          · refine Ev.neg (by omega) (Ev.bind (Ev.now _) ?_)
            obtain ⟨h5, h6⟩ := hj2.2 (by omega)
            show Ev (fun n => if (parse (a.data.toList ++ 38 :: b.data.toList)).2.1 = 0 then _ else _) true
            refine Ev.pos h5 (Ev.bind (Ev.now _) (Ev.pos ?_ (Ev.bind (Ev.now _) (Ev.pos ?_ ?_))))
            · show 0 + _ < _; omega
            · rw [List.nil_append]; omega
            · have hx : (res34 (parse (a.data.toList ++ 38 :: b.data.toList))).1 = ([] ++ (parse a.data.toList).1.map mk34) ++ (parse b.data.toList).1.map mk34 := by
                show (parse (a.data.toList ++ 38 :: b.data.toList)).1.map mk34 = _
                rw [h6, List.map_append, List.nil_append]
              rw [hx]
              refine Ev.bind (pairs_evJ _ ?_) (Ev.pos rfl (Ev.bind live_ev (Ev.now _)))
              rw [List.nil_append, List.length_append]; omega
    · rw [bne_iff_ne.2 h2]
      exact hlive _ _
  · exact Ev.neg h1 (hlive _ _)
end Go.Proofs.YtgfnjdpbahecdaaDoor.Pure
