/-
  slices.Sort and slices.Compact on a row of strings of the call's own, over this seat's numbers.
-/
import Derived.Test.YtmimipgmhgalaaaGreatDoorShelf
import Derived.Test.YtmimipgmhgalaaaGreatDoorWWords
import Derived.Test.YtmimipgmhgalaaaGreatDoorFSplit
import Derived.Lib.Hide
namespace Go.Proofs.YtmimipgmhgalaaaGreatDoor.PAll
open Go.RowKit Go.Proofs.YtmimipgmhgalaaaGreatDoorW.PrintWords Go.Sort
set_option linter.unusedVariables false

def toS (x : List UInt8) : ByteArray := ⟨x.toArray⟩
def ofS (s : ByteArray) : List UInt8 := s.data.toList
theorem toS_ofS (s : ByteArray) : toS (ofS s) = s := by cases s; simp [toS, ofS]
theorem ofS_toS (x : List UInt8) : ofS (toS x) = x := by simp [toS, ofS]
def sortS (l : List ByteArray) : List ByteArray := ((l.map ofS).mergeSort fun x y => decide (x ≤ y)).map toS
def compactS (l : List ByteArray) : List ByteArray := (Lib.compact (l.map ofS)).map toS

theorem heap_put_self {w : World} {g : Nat} {cur : Array Value} {e : TypeId} (hh : w.heap[g]? = some (.cells cur e (0, 0))) (d : Array (List UInt8)) : (putRow encStr w g 0 d).heap[g]? = some (.cells (putCells encStr 0 d cur) e (0, 0)) := by
  simp [putRow, mapBlock, Array.getElem?_modify, hh, onCells]
theorem heap_put_other {w : World} {g k : Nat} (hk : k ≠ g) (d : Array (List UInt8)) : (putRow encStr w g 0 d).heap[k]? = w.heap[k]? := by
  simp only [putRow, mapBlock, Array.getElem?_modify]
  rw [if_neg (by omega)]
theorem heap_put_size (w : World) (g : Nat) (d : Array (List UInt8)) : (putRow encStr w g 0 d).heap.size = w.heap.size := by simp [putRow, mapBlock]
theorem put_take (d : Array (List UInt8)) (cur : Array Value) (m : Nat) (hm : m ≤ d.size) (hc : d.size ≤ cur.size) : (putCells encStr 0 d cur).toList.take m = (d.toList.take m).map encStr := by
  apply List.ext_getElem?
  intro j
  by_cases hj : j < m
  · rw [List.getElem?_take_of_lt hj, List.getElem?_map, List.getElem?_take_of_lt hj]
    simp only [putCells, Array.getElem?_toList, Array.getElem?_mapIdx]
    rw [Array.getElem?_eq_getElem (show j < cur.size by omega), Array.getElem?_eq_getElem (show j < d.size by omega)]
    simp only [Option.map_some]
    rw [if_pos ⟨Nat.zero_le _, by omega⟩, Nat.sub_zero, getElem!_pos d j (by omega)]
  · rw [List.getElem?_eq_none (by rw [List.length_take]; omega), List.getElem?_eq_none (by rw [List.length_map, List.length_take]; omega)]

/-- What a row of strings of the call's own is, laid open. -/
theorem open_R {w : World} {base : Nat} {P : Nat → Prop} {v : Value} {l : List ByteArray} (h : Kd.R Kd.string 9 w base P v l) (h0 : l ≠ []) :
    ∃ g cap cur, v = .slice (some ⟨g, 0, none⟩) l.length cap ∧ P g ∧ base ≤ g ∧ w.heap[g]? = some (.cells cur 9 (0, 0)) ∧ l.length ≤ cap ∧ cap ≤ maxLen ∧ cur.size = cap ∧ cur.toList.take l.length = l.map Value.string := by
  obtain ⟨hP, inner, ⟨hl, ho⟩, hr⟩ := h
  have hin : inner = l.map Value.string := by
    apply List.ext_getElem?
    intro j
    have hsz : inner.length = l.length := by have := hr.1; simpa [Kd.string, Kd.scalar] using this
    by_cases hj : j < l.length
    · have := hr.2 j l[j] (List.getElem?_eq_getElem hj)
      have h2 : (inner.drop (j * 1)).take 1 = [Value.string l[j]] := this
      rw [Nat.mul_one] at h2
      rw [List.getElem?_map, List.getElem?_eq_getElem hj]
      have h3 : ((inner.drop j).take 1)[0]? = some (Value.string l[j]) := by rw [h2]; rfl
      rw [List.getElem?_take_of_lt (by omega), List.getElem?_drop] at h3
      simpa using h3
    · rw [List.getElem?_eq_none (by omega), List.getElem?_eq_none (by rw [List.length_map]; omega)]
  rcases ho with ⟨rfl, hn⟩ | ⟨g, cap, cur, rfl, hg, hh, hc1, hc2, hc3, ht⟩
  · exact absurd (List.eq_nil_of_length_eq_zero hn) h0
  · refine ⟨g, cap, cur, rfl, hP g rfl, hg, hh, hc1, hc2, by simpa [Kd.string, Kd.scalar] using hc3, ?_⟩
    rw [← hin]
    simpa [Kd.string, Kd.scalar] using ht

theorem holds_R {w : World} {g cap : Nat} {cur : Array Value} {l : List ByteArray} (hh : w.heap[g]? = some (.cells cur 9 (0, 0))) (hc : l.length ≤ cap) (hs : cur.size = cap) (ht : cur.toList.take l.length = l.map Value.string) : Holds encStr w g 0 (l.map ofS).toArray := by
  intro j hj
  have hj' : j < l.length := by simpa using hj
  refine ⟨?_, Lib.frozen_of_heap hh _⟩
  rw [Lib.cell_of_heap hh]
  have h1 : (cur.toList.take l.length)[j]? = some (Value.string l[j]) := by rw [ht]; simp [hj']
  rw [List.getElem?_take_of_lt hj'] at h1
  rw [Nat.zero_add, ← Array.getElem?_toList, h1, getElem!_pos _ j (by simpa using hj)]
  simp only [List.getElem_toArray, List.getElem_map]
  show _ = some (Value.string (toS (ofS l[j])))
  rw [toS_ofS]

/-- The row behind a rewriting of its first cells. -/
theorem R_of_put {w : World} {base base' g cap : Nat} {cur : Array Value} {P P' : Nat → Prop} (hg : base' ≤ g) (hP : P' g) (hh : w.heap[g]? = some (.cells cur 9 (0, 0))) (hcap : cap ≤ maxLen) (hs : cur.size = cap) (d : List (List UInt8)) (m : Nat) (hm : m ≤ d.length) (hd : d.length ≤ cap)
    {W : World} (hW : W.heap[g]? = (putRow encStr w g 0 d.toArray).heap[g]?) : Kd.R Kd.string 9 W base' P' (.slice (some ⟨g, 0, none⟩) m cap) ((d.take m).map toS) := by
  have hl : ((d.take m).map toS).length = m := by simp [hm]
  have h := heap_put_self hh d.toArray
  refine ⟨fun k hk => ?_, ((d.take m).map toS).map Value.string, ⟨?_, .inr ⟨g, cap, putCells encStr 0 d.toArray cur, ?_, hg, hW.trans h, ?_, hcap, ?_, ?_⟩⟩, reps_strings _⟩
  · have : g = k := by simpa [Value.ownBlock] using hk
    subst this
    exact hP
  · simp [Kd.string, Kd.scalar]
  · rw [hl]
  · rw [hl]; omega
  · simp [Kd.string, Kd.scalar, putCells, hs]
  · have hz : Kd.string.sz = 1 := rfl
    rw [hl, hz, Nat.mul_one, put_take _ _ _ (by simpa using hm) (by simp; omega)]
    rw [List.toList_toArray, List.map_map]
    rfl

def slices_Sort_string_string.f (l0 : List ByteArray) : Option (List ByteArray) := if l0 ≠ [] ∧ l0.length < 4611686018427387904 then some (sortS l0) else none

theorem sortS_len (l : List ByteArray) : (sortS l).length = l.length := by simp [sortS]

theorem slices_Sort_string_string.calls (P0_ : Nat → Prop) (u9000_ : Value) (l0 : List ByteArray) (r : List ByteArray) (w0 w : World) (hB : Below w0.heap.size w0 w) (ho0 : Kd.R Kd.string 9 w w0.heap.size P0_ u9000_ l0) (h : slices_Sort_string_string.f l0 = some r) :
    Calls Tryz.prog 88 #[u9000_] w fun e w' => e = .returned (.tuple #[]) ∧ Kd.R Kd.string 9 w' w0.heap.size (fun k_ => (P0_ k_ ∨ w.heap.size ≤ k_)) u9000_ r ∧ Below w0.heap.size w0 w' ∧ Kept w w' (fun k_ => P0_ k_) := by
  unfold slices_Sort_string_string.f at h
  split at h
  · rename_i hh
    injection h with h
    subst h
    obtain ⟨h0, hsz⟩ := hh
    obtain ⟨g, cap, cur, rfl, hP, hg, hheap, hc1, hc2, hc3, ht⟩ := open_R ho0 h0
    have hlt : g < w.heap.size := (Array.getElem?_eq_some_iff.1 hheap).1
    have hH := holds_R hheap hc1 hc3 ht
    have hlen : (l0.map ofS).length = l0.length := by simp
    have hcall := Tryz.slices_Sort_string g 0 cap (l0.map ofS) w hH hlt (by rw [hlen]; exact hsz)
    rw [hlen] at hcall
    refine hcall.mono fun e w' ⟨he, n, os, hw⟩ => ?_
    have hsl : ((l0.map ofS).mergeSort fun x y => decide (x ≤ y)).length = l0.length := by simp
    have hbk : ∀ k, k < w.heap.size → w'.heap[k]? = (putRow encStr w g 0 ((l0.map ofS).mergeSort fun x y => decide (x ≤ y)).toArray).heap[k]? := by
      intro k hk
      rw [hw]
      show (_ ++ os)[k]? = _
      rw [Array.getElem?_append_left (by rw [heap_put_size]; exact hk)]
      rfl
    have hsize : w.heap.size ≤ w'.heap.size := by
      rw [hw]
      show _ ≤ (_ ++ os).size
      rw [Array.size_append, heap_put_size]
      exact Nat.le_add_right _ _
    refine ⟨he, ?_, ?_, hsize, fun i hi hn => ?_⟩
    · have := R_of_put (P := P0_) (base := w0.heap.size) (base' := w0.heap.size) (P' := fun k_ => (P0_ k_ ∨ w.heap.size ≤ k_)) hg (.inl hP) hheap hc2 hc3 ((l0.map ofS).mergeSort fun x y => decide (x ≤ y)) l0.length (by omega) (by omega) (W := w') (hbk g hlt)
      rw [List.take_of_length_le (by omega)] at this
      exact this
    · refine ⟨?_, ?_, ?_, Nat.le_trans hB.size hsize, fun k hk => ?_⟩
      · rw [hw]; exact hB.os
      · rw [hw]; exact hB.tape
      · rw [hw]; exact hB.output
      · rw [hbk k (Nat.lt_of_lt_of_le hk hB.size), heap_put_other (by omega)]
        exact hB.block k hk
    · rw [hbk i hi, heap_put_other (k := i) (g := g) (fun e => hn (by subst e; exact hP))]
  · cases h

def slices_Compact_string_string.f (l0 : List ByteArray) : Option (List ByteArray) := if l0 ≠ [] then some (compactS l0) else none

theorem compact_le (zs : List (List UInt8)) : (Lib.compact zs).length ≤ zs.length := by
  unfold Lib.compact Lib.compactUpTo
  rw [List.length_map]
  exact Nat.le_trans (List.length_filter_le _ _) (by simp)

theorem slices_Compact_string_string.calls (P0_ : Nat → Prop) (u9000_ : Value) (l0 : List ByteArray) (r : List ByteArray) (w0 w : World) (hB : Below w0.heap.size w0 w) (ho0 : Kd.R Kd.string 9 w w0.heap.size P0_ u9000_ l0) (h : slices_Compact_string_string.f l0 = some r) :
    Calls Tryz.prog 89 #[u9000_] w fun e w' => ∃ v0_ : Value, e = .returned v0_ ∧ Kd.R Kd.string 9 w' w0.heap.size (fun k_ => (P0_ k_ ∨ w.heap.size ≤ k_)) v0_ r ∧ Below w0.heap.size w0 w' ∧ Kept w w' (fun k_ => P0_ k_) := by
  unfold slices_Compact_string_string.f at h
  split at h
  · rename_i h0
    injection h with h
    subst h
    obtain ⟨g, cap, cur, rfl, hP, hg, hheap, hc1, hc2, hc3, ht⟩ := open_R ho0 h0
    have hlt : g < w.heap.size := (Array.getElem?_eq_some_iff.1 hheap).1
    have hH := holds_R hheap hc1 hc3 ht
    have hlen : (l0.map ofS).length = l0.length := by simp
    have hcall := Tryz.slices_Compact_string g 0 cap (l0.map ofS) w hH (by rw [hlen]; unfold maxLen at hc2; omega) (by rw [hlen]; exact hc1)
    rw [hlen] at hcall
    have hle := compact_le (l0.map ofS)
    rw [hlen] at hle
    refine hcall.mono fun e w' ⟨he, q, hw⟩ => ?_
    have hdl : (Lib.compact (l0.map ofS) ++ List.replicate (l0.length - (Lib.compact (l0.map ofS)).length) []).length = l0.length := by rw [List.length_append, List.length_replicate]; omega
    have hbk : ∀ k : Nat, w'.heap[k]? = (putRow encStr w g 0 (Lib.compact (l0.map ofS) ++ List.replicate (l0.length - (Lib.compact (l0.map ofS)).length) []).toArray).heap[k]? := by
      intro k
      rw [hw]
      rfl
    have hsize : w.heap.size ≤ w'.heap.size := by
      rw [hw]
      exact Nat.le_of_eq (heap_put_size w g _).symm
    refine ⟨_, he, ?_, ?_, hsize, fun i hi hn => ?_⟩
    · have := R_of_put (P := P0_) (base := w0.heap.size) (base' := w0.heap.size) (P' := fun k_ => (P0_ k_ ∨ w.heap.size ≤ k_)) hg (.inl hP) hheap hc2 hc3 (Lib.compact (l0.map ofS) ++ List.replicate (l0.length - (Lib.compact (l0.map ofS)).length) []) (Lib.compact (l0.map ofS)).length (by omega) (by omega) (W := w') (hbk g)
      rw [List.take_left' rfl] at this
      exact this
    · refine ⟨?_, ?_, ?_, Nat.le_trans hB.size hsize, fun k hk => ?_⟩
      · rw [hw]; exact hB.os
      · rw [hw]; exact hB.tape
      · rw [hw]; exact hB.output
      · rw [hbk k, heap_put_other (by omega)]
        exact hB.block k hk
    · rw [hbk i, heap_put_other (k := i) (g := g) (fun e => hn (by subst e; exact hP))]
  · cases h
end Go.Proofs.YtmimipgmhgalaaaGreatDoor.PAll
