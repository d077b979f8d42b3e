/-
  THE PURE LAW of FormOnes: every name in every list of pairs, of the sizes that the bounded statement speaks of.
-/
import Derived.Test.YtgfnjdpbahecdaaDoorPAllx15
import Derived.Test.YtgfnjdpbahecdaaDoorPureFormJoins
namespace Go.Proofs.YtgfnjdpbahecdaaDoor.Pure
open Go.RowKit Go.Proofs.YtgfnjdpbahecdaaDoorW.PrintWords Go.Proofs.YtgfnjdpbahecdaaDoor.Plain Go.Proofs.YtgfnjdpbahecdaaDoor.Spec Go.Proofs.YtgfnjdpbahecdaaDoor.PAll
set_option linter.unusedSimpArgs false
set_option linter.unusedVariables false
def to61 (p : S34) : S61 := ⟨p.f0, p.f1⟩
theorem ours_ev (l : List S34) (hl : l.length ≤ 4000000000000) : Ev (fun k => wicketlaw03_ours.f k l) (l.map to61) := by
  have H : ∀ (m i : Nat), i + m = l.length → Ev (fun k => wicketlaw03_ours.l0 k l ((l.take i).map to61) (i : Int)) (l.map to61) := by
    intro m
    induction m with
    | zero =>
      intro i hi
      refine Ev.step (f := fun _ => some _) (fun k => ?_) (Ev.now _)
      simp only [wicketlaw03_ours.l0]
      rw [if_neg (by omega), List.take_of_length_le (by omega)]
    | succ m ih =>
      intro i hi
      have hlt : i < l.length := by omega
      have hal2 : ((l.take i).map to61).length = i := by rw [List.length_map, List.length_take]; omega
      have hrd : rd_T34 l (i : Int) = l[i] := by simp [rd_T34, hlt]
      refine Ev.step (fun k => ?_) (ih (i + 1) (by omega))
      simp only [wicketlaw03_ours.l0]
      rw [if_pos (by omega), if_pos (by omega), if_pos (by omega), hrd, w64 (by omega) (by omega), List.take_succ_eq_append_getElem hlt, List.map_append]
      rfl
  unfold wicketlaw03_ours.f
  exact H l.length 0 (by omega)
def foldO (name : ByteArray) : List S34 → ByteArray → Nat → ByteArray × Bool × Int
  | [], v, n => if n > 1 then (⟨#[]⟩, false, 34) else (v, v.toList != [], 0)
  | p :: r, v, n => if p.f0.toList = name.toList then foldO name r p.f1 (n + 1) else foldO name r v n
theorem one_ev (l : List S34) (hl : l.length ≤ 4000000000000) (name : ByteArray) : ∀ (m i n : Nat) (v : ByteArray), i + m = l.length → n ≤ i → Ev (fun k => urlform_One.l0 k name v (n : Int) l (l.length : Int) (i : Int)) (foldO name (l.drop i) v n) := by
  intro m
  induction m with
  | zero =>
    intro i n v hi hn
    rw [List.drop_eq_nil_of_le (by omega)]
    unfold foldO
    refine Ev.step (f := fun _ => some _) (fun k => ?_) (Ev.now _)
    simp only [urlform_One.l0]
    rw [if_neg (by omega)]
    by_cases h : n > 1
    · rw [if_pos h, if_pos (by omega)]
    · rw [if_neg h, if_neg (by omega)]
  | succ m ih =>
    intro i n v hi hn
    have hlt : i < l.length := by omega
    have hrd : rd_T34 l (i : Int) = l[i] := by simp [rd_T34, hlt]
    rw [drop_cons l i hlt]
    unfold foldO
    have ih1 := ih (i + 1)
    generalize l[i] = p at *
    by_cases h : p.f0.toList = name.toList
    · rw [if_pos h]
      refine Ev.step (fun k => ?_) (ih1 (n + 1) p.f1 (by omega) (by omega))
      simp only [urlform_One.l0]
      rw [if_pos (by omega), if_pos (by omega), if_pos (by omega), hrd, if_pos h, w64 (by omega) (by omega), w64 (by omega) (by omega)]
      rfl
    · rw [if_neg h]
      refine Ev.step (fun k => ?_) (ih1 n v (by omega) (by omega))
      simp only [urlform_One.l0]
      rw [if_pos (by omega), if_pos (by omega), if_pos (by omega), hrd, if_neg h, w64 (by omega) (by omega)]
      rfl
theorem refone_ev (l : List S34) (hl : l.length ≤ 4000000000000) (name : ByteArray) : ∀ (m i n : Nat) (v : ByteArray), i + m = l.length → n ≤ i → Ev (fun k => wicketref03_One.l0 k (l.map to61) name (n : Int) v (i : Int)) (foldO name (l.drop i) v n) := by
  have hal : (l.map to61).length = l.length := List.length_map ..
  intro m
  induction m with
  | zero =>
    intro i n v hi hn
    rw [List.drop_eq_nil_of_le (by omega)]
    unfold foldO
    refine Ev.step (f := fun _ => some _) (fun k => ?_) (Ev.now _)
    simp only [wicketref03_One.l0]
    rw [if_neg (by omega)]
    by_cases h : n > 1
    · rw [if_pos h, if_pos (by omega)]
    · rw [if_neg h, if_neg (by omega)]
  | succ m ih =>
    intro i n v hi hn
    have hlt : i < l.length := by omega
    have hrd : rd_T61 (l.map to61) (i : Int) = to61 l[i] := by simp [rd_T61, hlt]
    rw [drop_cons l i hlt]
    unfold foldO
    have ih1 := ih (i + 1)
    generalize l[i] = p at *
    by_cases h : p.f0.toList = name.toList
    · rw [if_pos h]
      have h' : (to61 p).f0.toList = name.toList := h
      refine Ev.step (fun k => ?_) (ih1 (n + 1) p.f1 (by omega) (by omega))
      simp only [wicketref03_One.l0]
      rw [if_pos (by omega), if_pos (by omega), hrd, if_pos h', w64 (by omega) (by omega), w64 (by omega) (by omega)]
      rfl
    · rw [if_neg h]
      have h' : ¬ (to61 p).f0.toList = name.toList := h
      refine Ev.step (fun k => ?_) (ih1 n v (by omega) (by omega))
      simp only [wicketref03_One.l0]
      rw [if_pos (by omega), if_pos (by omega), hrd, if_neg h', w64 (by omega) (by omega)]
      rfl
theorem sum_len {α : Type} (g : α → Nat) (hg : ∀ x, 1 ≤ g x) : ∀ l : List α, l.length ≤ (l.map g).sum
  | [] => Nat.zero_le _
  | x :: l => by
    have := sum_len g hg l
    have := hg x
    simp only [List.length_cons, List.map_cons, List.sum_cons]
    omega
theorem FormOnes (l : List S34) (name : ByteArray) (ok0 : l.length * 32 ≤ 140737488351232 ∧ ∀ y, y ∈ l → (y.f0.size ≤ 140737488351232) ∧ (y.f1.size ≤ 140737488351232)) (ok1 : name.size ≤ 140737488351232)
    (hb : ((l.map fun y => ((y.f0.size + 1) + (y.f1.size + 1) + 1)).sum + 1) + (name.size + 1) ≤ 1048576) : ∃ k, wicketlaw03_FormOnes.f k l name = some true := by
  refine Ev.rounds ?_
  have hs := sum_len (fun y : S34 => ((y.f0.size + 1) + (y.f1.size + 1) + 1)) (fun x => by omega) l
  unfold wicketlaw03_FormOnes.f
  refine Ev.bind (Ev.now _) (Ev.pos (by rw [List.length_nil]; omega) (Ev.bind (Ev.now _) ?_))
  simp only [List.nil_append]
  refine Ev.bind (a := foldO name l ⟨#[]⟩ 0) ?_ (Ev.bind (ours_ev l (by omega)) (Ev.bind (a := foldO name l ⟨#[]⟩ 0) ?_ (Ev.pos rfl (Ev.pos (by simp) (Ev.bind (Ev.now _) (Ev.pos rfl (Ev.bind (pairs_evJ l (by omega)) (Ev.pos rfl (Ev.bind live_ev (Ev.now _))))))))))
  · unfold urlform_One.f
    exact one_ev l (by omega) name l.length 0 0 ⟨#[]⟩ (by omega) (by omega)
  · unfold wicketref03_One.f
    exact refone_ev l (by omega) name l.length 0 0 ⟨#[]⟩ (by omega) (by omega)
end Go.Proofs.YtgfnjdpbahecdaaDoor.Pure
