/-
  Arrays of bytes compared; lists of integers that are bytes; lent and kept.
-/
import Derived.Test.YtfedlgcpgfofjaaDoorDLive
import Derived.Test.YtfedlgcpgfofjaaDoorPlain
import Derived.ChangeKeysEq
namespace Go.Proofs.YtfedlgcpgfofjaaDoor.Sha
open Go.RowKit Go.Proofs.YtfedlgcpgfofjaaDoorW.PrintWords Go.Proofs.YtfedlgcpgfofjaaDoor.PAll Go.Proofs.YtfedlgcpgfofjaaDoor.Plain
set_option linter.unusedVariables false
theorem info5_size : (Tryd.prog.info? 5).map (·.size) = some 1 := by kernel_rfl
theorem cells5 : Tryd.prog.cellsOf 5 = 1 := by kernel_rfl
theorem run_eqItems_bytes (d : Nat) (D E : List Nat) (W : World) : ∀ (is : List Nat), (∀ i ∈ is, i < D.length ∧ i < E.length) →
    (Op.eqItems (d + 1) 5 1 (D.map v8).toArray (E.map v8).toArray is).run Tryd.prog W = .ok (is.all fun i => decide (D.getD i 0 = E.getD i 0)) W
  | [], _ => rfl
  | i :: is, h => by
    obtain ⟨h1, h2⟩ := h i (by simp)
    have hp : ∀ (L : List Nat), i < L.length → (part 5 (L.map v8).toArray (i * 1)).run Tryd.prog W = .ok (.int .u8 (L.getD i 0 : Nat)) W := fun L hL => by
      have hagg : (isAgg 5).run Tryd.prog W = .ok false W := by
        unfold isAgg
        rw [Sem.run_bind, run_underlying Tryd.underlying5 W]
        rfl
      have hg : (L.map v8).toArray[i * 1]? = some (.int .u8 (L.getD i 0 : Nat)) := by
        rw [Nat.mul_one, List.getElem?_toArray, List.getElem?_map, List.getElem?_eq_getElem hL, List.getD_eq_getElem?_getD, List.getElem?_eq_getElem hL]
        rfl
      simp only [part, Sem.run_bind, hagg, Result.andThen_ok, Bool.false_eq_true, if_false, hg, Sem.run_pure]
    have he := run_equalIn_int (P := Tryd.prog) W d 5 .u8 .u8 (D.getD i 0 : Nat) (E.getD i 0 : Nat) Tryd.underlying5
    have ih := run_eqItems_bytes d D E W is (fun j hj => h j (by simp [hj]))
    simp only [Op.eqItems, Sem.run_bind, hp D h1, hp E h2, Result.andThen_ok, he, List.all_cons]
    by_cases hx : D.getD i 0 = E.getD i 0
    · have hb : (((D.getD i 0 : Nat) : Int) == ((E.getD i 0 : Nat) : Int)) = true := by rw [hx]; simp
      rw [hb, decide_eq_true hx]
      simpa using ih
    · have hb : (((D.getD i 0 : Nat) : Int) == ((E.getD i 0 : Nat) : Int)) = false := by
        rw [Bool.eq_false_iff]; intro h; exact hx (by have := eq_of_beq h; omega)
      rw [hb, decide_eq_false hx]
      rfl
theorem run_eql24 (D E : List Nat) (hD : D.length = 32) (hE : E.length = 32) (W : World) :
    (binOp .eql 24 (.agg (D.map v8).toArray) (.agg (E.map v8).toArray)).run Tryd.prog W = .ok (.bool (decide (D = E))) W := by
  obtain ⟨i, hi⟩ : ∃ i, Tryd.prog.info? 5 = some i := by
    have := info5_size
    cases h : Tryd.prog.info? 5 with
    | none => rw [h] at this; cases this
    | some i => exact ⟨i, rfl⟩
  have h := run_equalIn_array (P := Tryd.prog) W 9999 (D.map v8).toArray (E.map v8).toArray Tryd.underlying24 hi
  rw [cells5, run_eqItems_bytes 9998 D E W _ (fun i hi => by have := List.mem_range.1 hi; omega)] at h
  have e : ((List.range 32).all fun i => decide (D.getD i 0 = E.getD i 0)) = decide (D = E) := by
    rw [Bool.eq_iff_iff, List.all_eq_true, decide_eq_true_eq]
    constructor
    · intro hh
      apply List.ext_getElem (by omega)
      intro j h1 h2
      have := of_decide_eq_true (hh j (List.mem_range.2 (by omega)))
      rw [List.getD_eq_getElem?_getD, List.getD_eq_getElem?_getD, List.getElem?_eq_getElem h1, List.getElem?_eq_getElem h2] at this
      exact this
    · rintro rfl j _
      simp
  rw [e] at h
  simp only [binOp]
  simp [Op.equal, Op.maxDepth, h]
/-- What is laid behind what is lent. -/
def marks : List Nat := (List.range 64).map fun i => (200 + i % 7) % 256
theorem marks_len : marks.length = 64 := by decide
theorem marks_all : All 256 marks := all_dec (by decide)
theorem marks_at (i : Nat) (h : i < 64) : marks.getD i 0 = 200 + i % 7 := by
  simp [marks, List.getD_eq_getElem?_getD, h]; omega
/-- Integers that are bytes, as naturals. -/
def toN (l : List Int) : List Nat := l.map Int.toNat
theorem toI_toN {l : List Int} (h : ∀ x ∈ l, 0 ≤ x) : toI (toN l) = l := by
  unfold toI toN
  rw [List.map_map]
  conv => rhs; rw [← List.map_id l]
  apply List.map_congr_left
  intro x hx
  have := h x hx
  simp
  omega
theorem toN_all {l : List Int} (h : ∀ x ∈ l, x < 256) : All 256 (toN l) := by
  intro y hy
  obtain ⟨x, hx, rfl⟩ := List.mem_map.1 hy
  have := h x hx
  omega
theorem toI_app (a b : List Nat) : toI (a ++ b) = toI a ++ toI b := List.map_append ..
theorem lent_loop (p : List Nat) (hp : p.length ≤ 100000000000000) : ∀ (m i : Nat), i + m = 64 → Ev (fun k => wicketlaw02_lent.l0 k (toI p ++ toI (marks.take i)) (i : Int)) (toI p ++ toI marks) := by
  intro m
  induction m with
  | zero =>
    intro i hi
    refine Ev.step (f := fun _ => some (toI p ++ toI (marks.take i))) (fun k => ?_) (Ev.eq (Ev.now _) ?_)
    · simp only [wicketlaw02_lent.l0]
      rw [if_neg (by omega)]
    · rw [List.take_of_length_le (by rw [marks_len]; omega)]
  | succ m ih =>
    intro i hi
    have hl : (toI p ++ toI (marks.take i)).length < 140737488355328 := by rw [List.length_append, toI_len, toI_len, List.length_take, marks_len]; omega
    refine Ev.step (fun k => ?_) (ih (i + 1) (by omega))
    · simp only [wicketlaw02_lent.l0]
      rw [if_pos (by omega), if_pos hl]
      have e1 : wrap64 (200 + Int.tmod (i : Int) 7) % 256 = ((marks.getD i 0 : Nat) : Int) := by
        rw [marks_at i (by omega), Int.tmod_eq_emod_of_nonneg (by omega), w64 (by omega) (by omega)]
        omega
      have e2 : marks.take (i + 1) = marks.take i ++ [marks.getD i 0] := by
        rw [List.take_succ_eq_append_getElem (by rw [marks_len]; omega), List.getD_eq_getElem?_getD, List.getElem?_eq_getElem (by rw [marks_len]; omega)]; rfl
      rw [e1, e2, toI_app, w64 (by omega) (by omega), List.append_assoc]
      rfl
theorem lent_ev (p : List Nat) (hp : p.length ≤ 100000000000000) : Ev (fun k => wicketlaw02_lent.f k (toI p)) (toI (p ++ marks)) := by
  unfold wicketlaw02_lent.f
  have h := lent_loop p hp 64 0 (by omega)
  rw [List.take_zero] at h
  simp only [Option.bind_some]
  refine Ev.pos (by rw [toI_len]; simp; omega) ?_
  rw [toI_app]
  have e : (([] : List Int) ++ toI p) = toI p ++ toI [] := by simp [toI]
  rw [e]
  exact h
theorem kept_loop (p : List Nat) (hp : p.length ≤ 100000000000000) : ∀ (m i : Nat), i + m = 64 → Ev (fun k => wicketlaw02_kept.l0 k (toI (p ++ marks)) (toI p) (i : Int)) true := by
  intro m
  have hl : (toI (p ++ marks)).length = p.length + 64 := by rw [toI_len, List.length_append, marks_len]
  have hl2 : (toI p).length = p.length := toI_len p
  induction m with
  | zero =>
    intro i hi
    refine Ev.step (f := fun _ => some true) (fun k => ?_) (Ev.now _)
    simp only [wicketlaw02_kept.l0]
    rw [if_neg (by omega), if_pos (by omega), if_pos (by omega), hl2, Int.toNat_natCast]
    have e : (toI (p ++ marks)).take p.length = toI p := by
      rw [toI_app, List.take_left' hl2]
    rw [e]
    simp [wicketlaw02_same.f]
  | succ m ih =>
    intro i hi
    refine Ev.step (fun k => ?_) (ih (i + 1) (by omega))
    simp only [wicketlaw02_kept.l0]
    have ew : wrap64 (((toI p).length : Int) + (i : Int)) = ((p.length + i : Nat) : Int) := by rw [hl2, w64 (by omega) (by omega)]; omega
    have e0 : rd (toI (p ++ marks)) ((p.length + i : Nat) : Int) = ((marks.getD i 0 : Nat) : Int) := by
      unfold rd
      rw [Int.toNat_natCast, toI_getD, List.getD_eq_getElem?_getD, List.getElem?_append_right (by omega), Nat.add_sub_cancel_left, List.getD_eq_getElem?_getD]
    have e1 : wrap64 (200 + Int.tmod (i : Int) 7) % 256 = ((marks.getD i 0 : Nat) : Int) := by
      rw [marks_at i (by omega), Int.tmod_eq_emod_of_nonneg (by omega), w64 (by omega) (by omega)]
      omega
    rw [if_pos (by omega), ew, if_pos (by omega), if_pos (by omega), if_pos (by rw [e0, e1]), w64 (by omega) (by omega)]
    rfl
theorem kept_ev (p : List Nat) (hp : p.length ≤ 100000000000000) : Ev (fun k => wicketlaw02_kept.f k (toI (p ++ marks)) (toI p)) true := kept_loop p hp 64 0 (by omega)
/-- The tables as they lie when the call begins. -/
def Tabs (w : World) : Prop := Tab1 w ∧ Tab2 w ∧ TabF w ∧ 2 < w.heap.size
theorem Tabs.below {w w' : World} (h : Tabs w) (hb : Below w.heap.size w w') : Tabs w' :=
  ⟨h.1.below hb (by have := h.2.2.2; omega), h.2.1.below hb h.2.2.2, h.2.2.1.below hb (by have := h.2.2.2; omega), Nat.lt_of_lt_of_le h.2.2.2 hb.size⟩
theorem lent_any (p : List Nat) (A : Option Addr) (c : Nat) (w : World) (hp : p.length ≤ 100000000000000) (hc : p.length ≤ c) (hC : C8 w A p.length p) :
    Calls Tryd.prog 13 #[.slice A p.length c] w fun e w' => ∃ v, e = .returned v ∧ Own w' w.heap.size v (p ++ marks) ∧ Below w.heap.size w w' := by
  obtain ⟨k, hk⟩ := Ev.rounds (lent_ev p hp)
  have h := wicketlaw02_lent.calls k A c (toI p) _ w (by rw [toI_len]; exact hC) (by rw [toI_len]; exact hc) hk
  rw [toI_len] at h
  exact h.mono fun e w' ⟨v, he, hR, hb⟩ => ⟨v, he, Own.of_R hR, hb⟩
theorem kept_any (p : List Nat) (A A' : Option Addr) (n c c' : Nat) (w : World) (hn : n = p.length + 64) (hp : p.length ≤ 100000000000000) (hc : n ≤ c) (hc' : p.length ≤ c') (hC : C8 w A n (p ++ marks)) (hC' : C8 w A' p.length p) :
    Calls Tryd.prog 16 #[.slice A n c, .slice A' p.length c'] w fun e w' => e = .returned (.bool true) ∧ Below w.heap.size w w' := by
  obtain ⟨k, hk⟩ := Ev.rounds (kept_ev p hp)
  have hl : (toI (p ++ marks)).length = n := by rw [toI_len, List.length_append, marks_len, hn]
  have h := wicketlaw02_kept.calls k A c (toI (p ++ marks)) A' c' (toI p) true w (by rw [hl]; exact hC) (by rw [hl]; exact hc) (by rw [toI_len]; exact hC') (by rw [toI_len]; exact hc') hk
  rw [hl, toI_len] at h
  exact h.mono fun e w' ⟨he, hd⟩ => ⟨he, hd.below⟩
end Go.Proofs.YtfedlgcpgfofjaaDoor.Sha
