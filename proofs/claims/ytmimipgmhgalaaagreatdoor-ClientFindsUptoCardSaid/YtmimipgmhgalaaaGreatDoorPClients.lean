/-
  Lists of clients: copied, all, same, list and both Find, on lists.
-/
import Derived.Test.YtmimipgmhgalaaaGreatDoorPAllx5
import Derived.Test.YtmimipgmhgalaaaGreatDoorPAllx13
import Derived.Test.YtmimipgmhgalaaaGreatDoorPAllx14
import Derived.Test.YtmimipgmhgalaaaGreatDoorPAllx15
import Derived.Test.YtmimipgmhgalaaaGreatDoorPAllx33
import Derived.Test.YtmimipgmhgalaaaGreatDoorPlain
namespace Go.Proofs.YtmimipgmhgalaaaGreatDoor.Pure
open Go.RowKit Go.Proofs.YtmimipgmhgalaaaGreatDoorW.PrintWords Go.Proofs.YtmimipgmhgalaaaGreatDoor.Plain Go.Proofs.YtmimipgmhgalaaaGreatDoor.PAll
set_option linter.unusedSimpArgs false
set_option linter.unusedVariables false
abbrev CC := S40
abbrev CR := S43
def toR (x : CC) : CR := ⟨x.f0, x.f1, x.f2, x.f3, x.f4, x.f5⟩
def SmallC (l : List CC) : Prop := l.length ≤ 1599289640400 ∧ ∀ x ∈ l, x.f5.length ≤ 4000000000000
theorem ours_q (i s : ByteArray) (gr : Int) (pg : Bool) (u : ByteArray) (sc : List ByteArray) (h : sc.length ≤ 4000000000000) : wicketlaw11_ours.f i s gr pg u sc = some (i, s, gr, pg, u, sc) := by
  unfold wicketlaw11_ours.f
  rw [Option.bind_some, if_pos (by simp; omega)]
  rfl
theorem theirs_q (i s : ByteArray) (gr : Int) (pg : Bool) (u : ByteArray) (sc : List ByteArray) (h : sc.length ≤ 4000000000000) : wicketlaw11_theirs.f i s gr pg u sc = some (i, s, gr, pg, u, sc) := by
  unfold wicketlaw11_theirs.f
  rw [Option.bind_some, if_pos (by simp; omega)]
  rfl
theorem rdC (l : List CC) (i : Nat) (h : i < l.length) : rd_T40 l (i : Int) = l[i] := by
  unfold rd_T40; rw [Int.toNat_natCast, List.getD_eq_getElem?_getD, List.getElem?_eq_getElem h]; rfl
theorem rdR (l : List CR) (i : Nat) (h : i < l.length) : rd_T43 l (i : Int) = l[i] := by
  unfold rd_T43; rw [Int.toNat_natCast, List.getD_eq_getElem?_getD, List.getElem?_eq_getElem h]; rfl
theorem take_snoc {α : Type} (l : List α) (i : Nat) (h : i < l.length) : l.take i ++ [l[i]] = l.take (i + 1) := by rw [List.take_add_one, List.getElem?_eq_getElem h]; rfl
theorem copied_ev (l : List CC) (hl : SmallC l) : Ev (fun k => wicketlaw11_copied.f k l) l := by
  have h : ∀ (m i : Nat), i + m = l.length → Ev (fun k => wicketlaw11_copied.l0 k l (l.take i) (i : Int)) l := by
    intro m
    induction m with
    | zero =>
      intro i hi
      refine Ev.step (f := fun _ => some l) (fun k => ?_) (Ev.now _)
      simp only [wicketlaw11_copied.l0]; rw [if_neg (by omega), List.take_of_length_le (by omega)]
    | succ m ih =>
      intro i hi
      have hlt : i < l.length := by omega
      have h1 := hl.1
      refine Ev.step (f := fun k => wicketlaw11_copied.l0 k l (l.take (i + 1)) ((i + 1 : Nat) : Int)) (fun k => ?_) (ih (i + 1) (by omega))
      simp only [wicketlaw11_copied.l0]
      rw [if_pos (by omega), if_pos (by omega), rdC _ _ hlt, ours_q _ _ _ _ _ _ (hl.2 _ (List.getElem_mem hlt)), Option.bind_some, theirs_q _ _ _ _ _ _ (hl.2 _ (List.getElem_mem hlt)), Option.bind_some, if_pos (by rw [List.length_take]; omega), w64 (by omega) (by omega), ← take_snoc l i hlt]
      rfl
  exact h l.length 0 (by omega)
theorem all_ev (l : List CC) (hl : SmallC l) : Ev (fun k => wicketlaw11_all.f k l) (l.map toR) := by
  have h : ∀ (m i : Nat), i + m = l.length → Ev (fun k => wicketlaw11_all.l0 k l ((l.take i).map toR) (i : Int)) (l.map toR) := by
    intro m
    induction m with
    | zero =>
      intro i hi
      refine Ev.step (f := fun _ => some (l.map toR)) (fun k => ?_) (Ev.now _)
      simp only [wicketlaw11_all.l0]; rw [if_neg (by omega), List.take_of_length_le (by omega)]
    | succ m ih =>
      intro i hi
      have hlt : i < l.length := by omega
      have h1 := hl.1
      refine Ev.step (f := fun k => wicketlaw11_all.l0 k l ((l.take (i + 1)).map toR) ((i + 1 : Nat) : Int)) (fun k => ?_) (ih (i + 1) (by omega))
      simp only [wicketlaw11_all.l0]
      rw [if_pos (by omega), if_pos (by omega), rdC _ _ hlt, ours_q _ _ _ _ _ _ (hl.2 _ (List.getElem_mem hlt)), Option.bind_some, if_pos (by rw [List.length_map, List.length_take]; omega), w64 (by omega) (by omega), ← take_snoc l i hlt, List.map_append]
      rfl
  exact h l.length 0 (by omega)
theorem same_ev (i s : ByteArray) (gr : Int) (pg : Bool) (u : ByteArray) (sc : List ByteArray) (hs : sc.length ≤ 4000000000000) : Ev (fun k => wicketlaw11_same.f k i s gr pg u sc i s gr pg u sc) true := by
  have h : ∀ (m j : Nat), j + m = sc.length → Ev (fun k => wicketlaw11_same.l0 k (j : Int) i s gr pg u sc i s gr pg u sc) true := by
    intro m
    induction m with
    | zero =>
      intro j hj
      refine Ev.step (f := fun _ => some true) (fun k => ?_) (Ev.now _)
      simp only [wicketlaw11_same.l0]; rw [if_neg (by omega)]
    | succ m ih =>
      intro j hj
      have hlt : j < sc.length := by omega
      refine Ev.step (f := fun k => wicketlaw11_same.l0 k ((j + 1 : Nat) : Int) i s gr pg u sc i s gr pg u sc) (fun k => ?_) (ih (j + 1) (by omega))
      simp only [wicketlaw11_same.l0]
      rw [if_pos (by omega), if_pos (by omega), if_pos (by omega), if_true, w64 (by omega) (by omega)]
      rfl
  unfold wicketlaw11_same.f
  simp only [if_true, bne_self_eq_false, if_false, Bool.false_eq_true]
  refine Ev.step (f := fun k => wicketlaw11_same.l0 k (0 : Int) i s gr pg u sc i s gr pg u sc) (fun k => ?_) (h sc.length 0 (by omega))
  simp only [wicketlaw11_same.j0, Bool.false_eq_true, if_false]
theorem list_ev (l : List CC) (hl : SmallC l) : Ev (fun k => wicketlaw11_list.f k l (l.map toR)) true := by
  have h : ∀ (m i : Nat), i + m = l.length → Ev (fun k => wicketlaw11_list.l0 k l (l.map toR) (i : Int)) true := by
    intro m
    induction m with
    | zero =>
      intro i hi
      refine Ev.step (f := fun _ => some true) (fun k => ?_) (Ev.now _)
      simp only [wicketlaw11_list.l0]; rw [if_neg (by omega)]
    | succ m ih =>
      intro i hi
      have hlt : i < l.length := by omega
      have h1 := hl.1
      refine Ev.step (f := fun k => (wicketlaw11_same.f k (l[i]).f0 (l[i]).f1 (l[i]).f2 (l[i]).f3 (l[i]).f4 (l[i]).f5 (l[i]).f0 (l[i]).f1 (l[i]).f2 (l[i]).f3 (l[i]).f4 (l[i]).f5).bind fun t => if t = true then wicketlaw11_list.l0 k l (l.map toR) ((i + 1 : Nat) : Int) else some false) (fun k => ?_) ?_
      · simp only [wicketlaw11_list.l0]
        rw [if_pos (by omega), if_pos (by omega), if_pos (by rw [List.length_map]; omega), rdC _ _ hlt, rdR _ _ (by rw [List.length_map]; omega), List.getElem_map, w64 (by omega) (by omega)]
        rfl
      · exact Ev.bind (same_ev _ _ _ _ _ _ (hl.2 _ (List.getElem_mem hlt))) (Ev.pos rfl (ih (i + 1) (by omega)))
  unfold wicketlaw11_list.f
  exact Ev.pos (by rw [List.length_map]) (h l.length 0 (by omega))
def zeroC : CC := ⟨⟨#[]⟩, ⟨#[]⟩, 0, false, ⟨#[]⟩, []⟩
/-- The client with that id, and whether there is one. -/
def foundC (a : ByteArray) : List CC → CC × Bool
  | [] => (zeroC, false)
  | x :: r => if x.f0.toList = a.toList then (x, true) else foundC a r
theorem foundC_small (a : ByteArray) : ∀ l : List CC, (∀ x ∈ l, x.f5.length ≤ 4000000000000) → (foundC a l).1.f5.length ≤ 4000000000000
  | [], _ => by simp [foundC, zeroC]
  | x :: r, h => by
    unfold foundC
    split
    · exact h x (by simp)
    · exact foundC_small a r (fun y hy => h y (by simp [hy]))
theorem find_ev (l : List CC) (hl : SmallC l) (a : ByteArray) : Ev (fun k => client_Find.f k l a) ((foundC a l).1.f0, (foundC a l).1.f1, (foundC a l).1.f2, (foundC a l).1.f3, (foundC a l).1.f4, (foundC a l).1.f5, (foundC a l).2) := by
  have h : ∀ (m i : Nat), i + m = l.length → Ev (fun k => client_Find.l0 k a l (l.length : Int) (i : Int)) ((foundC a (l.drop i)).1.f0, (foundC a (l.drop i)).1.f1, (foundC a (l.drop i)).1.f2, (foundC a (l.drop i)).1.f3, (foundC a (l.drop i)).1.f4, (foundC a (l.drop i)).1.f5, (foundC a (l.drop i)).2) := by
    intro m
    induction m with
    | zero =>
      intro i hi
      refine Ev.step (f := fun _ => some _) (fun k => ?_) (Ev.now _)
      simp only [client_Find.l0]; rw [if_neg (by omega), List.drop_eq_nil_of_le (by omega)]; rfl
    | succ m ih =>
      intro i hi
      have hlt : i < l.length := by omega
      have h1 := hl.1
      have h2 := hl.2 _ (List.getElem_mem hlt)
      have e : l.drop i = l[i] :: l.drop (i + 1) := List.drop_eq_getElem_cons hlt
      by_cases hx : (l[i]).f0.toList = a.toList
      · refine Ev.step (f := fun _ => some _) (fun k => ?_) (Ev.now _)
        simp only [client_Find.l0]
        rw [if_pos (by omega), if_pos (by omega), if_pos (by omega), rdC _ _ hlt, if_pos hx, e]
        unfold client_copied.f slices_Clone_string_string.f
        rw [if_pos (by omega)]
        simp only [foundC, if_pos hx]
        rfl
      · have hn := ih (i + 1) (by omega)
        refine Ev.step (f := fun k => client_Find.l0 k a l (l.length : Int) ((i + 1 : Nat) : Int)) (fun k => ?_) ?_
        · simp only [client_Find.l0]
          rw [if_pos (by omega), if_pos (by omega), if_pos (by omega), rdC _ _ hlt, if_neg hx, w64 (by omega) (by omega)]
          rfl
        · rw [e]
          simp only [foundC, if_neg hx]
          exact hn
  exact h l.length 0 (by omega)
theorem rfind_ev (l : List CC) (hl : SmallC l) (a : ByteArray) : Ev (fun k => wicketref11_Find.f k (l.map toR) a) ((foundC a l).1.f0, (foundC a l).1.f1, (foundC a l).1.f2, (foundC a l).1.f3, (foundC a l).1.f4, (foundC a l).1.f5, (foundC a l).2) := by
  have h : ∀ (m i : Nat), i + m = l.length → Ev (fun k => wicketref11_Find.l0 k (l.map toR) a (i : Int)) ((foundC a (l.drop i)).1.f0, (foundC a (l.drop i)).1.f1, (foundC a (l.drop i)).1.f2, (foundC a (l.drop i)).1.f3, (foundC a (l.drop i)).1.f4, (foundC a (l.drop i)).1.f5, (foundC a (l.drop i)).2) := by
    intro m
    induction m with
    | zero =>
      intro i hi
      refine Ev.step (f := fun _ => some _) (fun k => ?_) (Ev.now _)
      simp only [wicketref11_Find.l0]; rw [if_neg (by rw [List.length_map]; omega), List.drop_eq_nil_of_le (by omega)]; rfl
    | succ m ih =>
      intro i hi
      have hlt : i < l.length := by omega
      have h1 := hl.1
      have e : l.drop i = l[i] :: l.drop (i + 1) := List.drop_eq_getElem_cons hlt
      have hr : rd_T43 (l.map toR) (i : Int) = toR l[i] := by rw [rdR _ _ (by rw [List.length_map]; omega), List.getElem_map]
      by_cases hx : (l[i]).f0.toList = a.toList
      · refine Ev.step (f := fun _ => some _) (fun k => ?_) (Ev.now _)
        simp only [wicketref11_Find.l0]
        rw [if_pos (by rw [List.length_map]; omega), if_pos (by omega), hr, if_pos (show (toR l[i]).f0.toList = a.toList from hx), e]
        simp only [foundC, if_pos hx]
        rfl
      · have hn := ih (i + 1) (by omega)
        refine Ev.step (f := fun k => wicketref11_Find.l0 k (l.map toR) a ((i + 1 : Nat) : Int)) (fun k => ?_) ?_
        · simp only [wicketref11_Find.l0]
          rw [if_pos (by rw [List.length_map]; omega), if_pos (by omega), hr, if_neg (show ¬ (toR l[i]).f0.toList = a.toList from hx), w64 (by omega) (by omega)]
          rfl
        · rw [e]
          simp only [foundC, if_neg hx]
          exact hn
  exact h l.length 0 (by omega)
/-- What a client weighs. -/
def weightC (y : CC) : Nat := ((y.f0.size + 1) + (y.f1.size + 1) + 1 + 1 + (y.f4.size + 1) + ((y.f5.map fun y => (y.size + 1)).sum + 1) + 1)
theorem sum_names (l : List ByteArray) : l.length ≤ (l.map fun y => (y.size + 1)).sum := by
  induction l with
  | nil => simp
  | cons x r ih => simp only [List.map_cons, List.sum_cons, List.length_cons]; omega
theorem weight_ge (x : CC) : x.f5.length + 1 ≤ weightC x := by
  have := sum_names x.f5
  unfold weightC
  omega
theorem weight_mem (l : List CC) : l.length ≤ (l.map weightC).sum ∧ ∀ x ∈ l, weightC x ≤ (l.map weightC).sum := by
  induction l with
  | nil => simp
  | cons x r ih =>
    simp only [List.map_cons, List.sum_cons, List.length_cons]
    refine ⟨by have := ih.1; have := weight_ge x; omega, fun y hy => ?_⟩
    rcases List.mem_cons.1 hy with rfl | hy
    · omega
    · have := ih.2 y hy; omega
theorem smallC_of (l : List CC) (n : Nat) (h : (l.map weightC).sum ≤ n) (hn : n ≤ 1048576) : SmallC l := by
  have h1 := weight_mem l
  refine ⟨by have := h1.1; omega, fun x hx => ?_⟩
  have h2 := h1.2 x hx
  have h3 := weight_ge x
  omega
end Go.Proofs.YtmimipgmhgalaaaGreatDoor.Pure
