/-
  urlform.Print: what the call does, walked.
-/
import Derived.Test.YtgfnjdpbahecdaaDoorFEscape
import Derived.Test.YtgfnjdpbahecdaaDoorPAllx0
import Derived.Deep.RegionWith
import Derived.Outline
namespace Go.Proofs.YtgfnjdpbahecdaaDoor.PAll
open Go.RowKit Go.Proofs.YtgfnjdpbahecdaaDoor.Spec Go.Proofs.YtgfnjdpbahecdaaDoorW.PrintWords
set_option linter.unusedVariables false
def pairB (p : S34) : List UInt8 := escL p.f0.data.toList ++ 61 :: escL p.f1.data.toList
def printL : List S34 → List UInt8
  | [] => []
  | p :: r => pairB p ++ r.flatMap fun q => 38 :: pairB q
def sizeL (l : List S34) : Nat := (l.map fun p => p.f0.size + p.f1.size + 1).sum
def urlform_Print.f (l0 : List S34) : Option ByteArray := if 3 * sizeL l0 ≤ 140737488355328 then some ⟨(printL l0).toArray⟩ else none
theorem pairB_len (p : S34) : (pairB p).length ≤ 3 * (p.f0.size + p.f1.size) + 1 := by
  have h0 := escL_len p.f0.data.toList
  have h1 := escL_len p.f1.data.toList
  have e0 : p.f0.data.toList.length = p.f0.size := by rw [Array.length_toList]; rfl
  have e1 : p.f1.data.toList.length = p.f1.size := by rw [Array.length_toList]; rfl
  simp only [pairB, List.length_append, List.length_cons]
  omega
theorem flat_len (l : List S34) : (l.flatMap fun q => 38 :: pairB q).length ≤ 3 * sizeL l := by
  induction l with
  | nil => simp [sizeL]
  | cons p r ih =>
    have := pairB_len p
    simp only [List.flatMap_cons, List.length_append, List.length_cons, sizeL, List.map_cons, List.sum_cons] at ih ⊢
    omega
theorem printL_len (l : List S34) : (printL l).length ≤ 3 * sizeL l := by
  cases l with
  | nil => simp [printL]
  | cons p r =>
    have := pairB_len p
    have h := flat_len r
    simp only [printL, List.length_append, sizeL, List.map_cons, List.sum_cons] at h ⊢
    omega
theorem printL_snoc (l : List S34) (p : S34) (h : l ≠ []) : printL (l ++ [p]) = printL l ++ 38 :: pairB p := by
  cases l with
  | nil => exact absurd rfl h
  | cons q r => simp [printL]
theorem sizeL_take (l : List S34) (k : Nat) (h : k < l.length) : sizeL (l.take k) + (l[k].f0.size + l[k].f1.size + 1) ≤ sizeL l := by
  induction l generalizing k with
  | nil => simp at h
  | cons q r ih =>
    cases k with
    | zero => simp [sizeL]
    | succ k =>
      have := ih k (by simpa using h)
      simp only [List.take_succ_cons, sizeL, List.map_cons, List.sum_cons, List.getElem_cons_succ] at this ⊢
      omega
/-- What stands while a pair is written: the builder, the pair's own box, the memory that was there. -/
structure PInv (w : World) (g : Nat) (p : S34) (bs : List Value) (W : World) : Prop where
  b : Lib.IsBuilder 72 5 w.heap.size w.heap.size bs W
  k : Below w.heap.size w W
  x : W.heap[g]? = some (.cells #[.string p.f0, .string p.f1] 34 (0, 0))
theorem isBuilder_below {T e B b : Nat} {bs : List Value} {W W' : World} (h : Lib.IsBuilder T e B b bs W) (hb : Below W.heap.size W W') : Lib.IsBuilder T e B b bs W' := by
  rcases h with ⟨h1, v, h2, h3, h4⟩ | ⟨h1, v, h2, h3, h4⟩
  · exact .inl ⟨h1, v, (hb.block b (Bld.lt_of h2)).trans h2, pw_own_below h3 hb, h4⟩
  · exact .inr ⟨h1, v, (hb.block b (Bld.lt_of h2)).trans h2, pw_own_below h3 hb, h4⟩
theorem PInv.step {w : World} {g : Nat} {p : S34} {bs : List Value} {W W' : World} (hb : Below W.heap.size W W') (h : PInv w g p bs W) : PInv w g p bs W' :=
  ⟨isBuilder_below h.b hb, h.k.trans (hb.mono h.k.size), (hb.block g (Bld.lt_of h.x)).trans h.x⟩
theorem PInv.drew {w : World} {g : Nat} {p : S34} {bs : List Value} {W : World} (h : PInv w g p bs W) : PInv w g p bs W.drew :=
  PInv.step ((Below.refl _ W).drew) h
theorem PInv.le {w : World} {g : Nat} {p : S34} {bs : List Value} {W : World} (h : PInv w g p bs W) : w.heap.size ≤ W.heap.size := h.k.size
theorem PInv.c0 {w : World} {g : Nat} {p : S34} {bs : List Value} {W : World} (h : PInv w g p bs W) : W.cell? ⟨g, 0, none⟩ = some (.string p.f0) := by rw [Lib.cell_of_heap h.x]; rfl
theorem PInv.c1 {w : World} {g : Nat} {p : S34} {bs : List Value} {W : World} (h : PInv w g p bs W) : W.cell? ⟨g, 1, none⟩ = some (.string p.f1) := by rw [Lib.cell_of_heap h.x]; rfl
theorem strCells_bytes (s : ByteArray) : Lib.strCells s = Lib.byteCells s.data.toList := by
  simp [Lib.strCells, Lib.byteCells]
theorem three (E0 E1 : ByteArray) (p : S34) (h0 : E0.data.toList = escL p.f0.data.toList) (h1 : E1.data.toList = escL p.f1.data.toList) : Lib.strCells (E0 ++ (⟨#[61]⟩ : ByteArray) ++ E1) = Lib.byteCells (pairB p) := by
  rw [strCells_bytes]
  congr 1
  simp [pairB, h0, h1]
theorem step_more (l0 : List S34) (k : Nat) (hlt : k < l0.length) (hk0 : 0 < k) (p : S34) (hp : l0[k] = p) (E0 E1 : ByteArray) (h0 : E0.data.toList = escL p.f0.data.toList) (h1 : E1.data.toList = escL p.f1.data.toList) :
    Lib.byteCells (printL (l0.take (k + 1))) = Lib.byteCells (printL (l0.take k)) ++ [Value.int .u8 38] ++ Lib.strCells (E0 ++ (⟨#[61]⟩ : ByteArray) ++ E1) := by
  rw [three E0 E1 p h0 h1, List.take_succ_eq_append_getElem hlt, hp, printL_snoc _ _ (by intro e; have := congrArg List.length e; rw [List.length_take, List.length_nil] at this; omega), Lib.byteCells_append, List.append_assoc]
  rfl
theorem step_first (l0 : List S34) (k : Nat) (hlt : k < l0.length) (hk0 : ¬ 0 < k) (p : S34) (hp : l0[k] = p) (E0 E1 : ByteArray) (h0 : E0.data.toList = escL p.f0.data.toList) (h1 : E1.data.toList = escL p.f1.data.toList) :
    Lib.byteCells (printL (l0.take (k + 1))) = Lib.byteCells (printL (l0.take k)) ++ Lib.strCells (E0 ++ (⟨#[61]⟩ : ByteArray) ++ E1) := by
  obtain rfl : k = 0 := by omega
  rw [three E0 E1 p h0 h1, List.take_succ_eq_append_getElem hlt, hp]
  simp [printL, Lib.byteCells]
theorem esc_some (s : ByteArray) (h : 3 * s.size ≤ 140737488355328) : ∃ r, urlform_Escape.f s = some r ∧ r.data.toList = escL s.data.toList ∧ r.size ≤ 3 * s.size := by
  refine ⟨⟨(escL s.data.toList).toArray⟩, by simp [urlform_Escape.f, h], by simp, ?_⟩
  have h1 := escL_len s.data.toList
  have e1 : s.data.toList.length = s.size := by rw [Array.length_toList]; rfl
  show (escL s.data.toList).toArray.size ≤ _
  simp only [List.size_toArray]
  omega
set_option maxHeartbeats 4000000 in
set_option maxRecDepth 100000 in
theorem urlform_Print.calls (A0 : Option Addr) (c0 : Nat) (l0 : List S34) (r : ByteArray) (w : World) (hr0 : Kd.C k34 w A0 l0.length l0) (hc0 : l0.length ≤ c0) (h : urlform_Print.f l0 = some r) :
    Calls Tryd.prog 30 #[.slice A0 l0.length c0] w fun e w' => e = .returned (.string r) ∧ Below w.heap.size w w' := by
  unfold urlform_Print.f at h
  split at h
  · rename_i hs
    injection h with h
    subst h
    have HR := Lib.hid hr0
    have hm := hr0.2.1
    clear hr0
    go_enter Tryd.func30, Tryd.ntmps30
    go_wp2
    go_loopw [8] (fun v8 wr => ∃ k : Nat, k ≤ l0.length ∧ v8 = .int .i64 k ∧ Lib.IsBuilder 72 5 w.heap.size w.heap.size (Lib.byteCells (printL (l0.take k))) wr ∧ Below w.heap.size w wr) (fun v8 _ => l0.length - (intOf v8).toNat)
    case atStart => exact ⟨0, Nat.zero_le _, rfl, Lib.fresh_isBuilder _ 5 w, (Below.refl _ w).alloc (Nat.le_refl _) _⟩
    case round =>
      obtain ⟨k, hk, rfl, hI, hB⟩ := hrel
      have hsz := hB.size
      by_cases hlt : k < l0.length
      · have hlen : (Lib.byteCells (printL (l0.take k))).length + 3 * (l0[k].f0.size + l0[k].f1.size + 1) ≤ 140737488355328 := by
          rw [Lib.byteCells_length]
          have h1 := printL_len (l0.take k)
          have h2 := sizeL_take l0 k hlt
          omega
        obtain ⟨ad, hA, hx0, hx1⟩ := at_T34 (Kd.C_below HR.out hB) (k : Int) (by omega) (by omega)
        subst hA
        have hp : rd_T34 l0 (k : Int) = l0[k] := by simp [rd_T34, hlt]
        rw [hp] at hx0 hx1
        simp only [Int.toNat_natCast] at hx0 hx1
        clear hp
        generalize hpk : l0[k] = p at *
        have HPK := Lib.hid hpk
        clear hpk
        obtain ⟨E0, he0, hE0, hz0⟩ := esc_some p.f0 (by omega)
        obtain ⟨E1, he1, hE1, hz1⟩ := esc_some p.f1 (by omega)
        have HE0 := Lib.hid hE0
        have HE1 := Lib.hid hE1
        have HE0' := Lib.hid he0
        have HE1' := Lib.hid he1
        clear hE0 hE1 he0 he1
        have HJ : PInv w wr.heap.size p (Lib.byteCells (printL (l0.take k))) (wr.alloc (.cells #[.string p.f0, .string p.f1] 34)) :=
          ⟨isBuilder_below hI ((Below.refl _ _).alloc (Nat.le_refl _) _), hB.alloc hsz _, by show (wr.heap.push _)[wr.heap.size]? = _; simp⟩
        have hlt2 : w.heap.size < wr.heap.size := by rcases hI with h | h <;> exact h.lt
        have hEE : (E0 ++ (⟨#[61]⟩ : ByteArray) ++ E1).size = E0.size + 1 + E1.size := by simp [ByteArray.size_append]; rfl
        by_cases hk0 : 0 < k
        · go_wp2_with fail
          refine (Bld.writeByte w.heap.size w.heap.size _ 38 _ HJ.b (by omega) (by simp; omega)).mono ?_
          rintro e w1 ⟨rfl, h1, hb1, hk1⟩
          have J1 : PInv w wr.heap.size p (Lib.byteCells (printL (l0.take k)) ++ [.int .u8 38]) w1 := ⟨h1, HJ.k.trans hb1, hk1 _ _ HJ.x (by intro e; injection e with e; omega) (by intro c fz e; injection e with _ e; cases e)⟩
          have HW : Hid ((Lib.byteCells (printL (l0.take k)) ++ [Value.int .u8 38]).length + (E0 ++ (⟨#[61]⟩ : ByteArray) ++ E1).size ≤ 140737488355328) := by
            show _ ≤ _
            rw [hEE, List.length_append]
            simp only [List.length_singleton]
            omega
          have J2 := J1.drew
          clear hEE
          have c0 := J2.c0
          have c1 := J2.c1
          go_wp2_with fail
          go_region_with (first
            | (go_at_call_of 26 (Value.string p.f0); refine (urlform_Escape.calls _ _ _ HE0'.out).mono ?_; rintro e w' ⟨rfl, hb⟩; have J3 := PInv.step hb (by assumption); have c0' := J3.c0; have c1' := J3.c1)
            | (go_at_call_of 26 (Value.string p.f1); refine (urlform_Escape.calls _ _ _ HE1'.out).mono ?_; rintro e w' ⟨rfl, hb⟩; have J4 := PInv.step hb (by assumption); have c0' := J4.c0; have c1' := J4.c1)
            | (go_at_call 46; refine (Bld.writeString w.heap.size w.heap.size _ _ _ (PInv.b (by assumption)) HW.out ?side2).mono ?_; (case side2 => exact PInv.le (p := p) (by assumption)); rintro e w' ⟨rfl, h2, hb2, _⟩))
          all_goals
            go_wp2
            go_roundw
            case rel =>
              refine ⟨k + 1, by omega, by go_num, ?_, (PInv.k (p := p) (by assumption)).trans hb2⟩
              rw [step_more l0 k hlt hk0 p HPK.out E0 E1 HE0.out HE1.out]
              exact h2
            case measure => simp [intOf]; omega
        · have HW : Hid ((Lib.byteCells (printL (l0.take k))).length + (E0 ++ (⟨#[61]⟩ : ByteArray) ++ E1).size ≤ 140737488355328) := by
            show _ ≤ _
            rw [hEE]
            omega
          have J2 := HJ.drew
          have c0 := J2.c0
          have c1 := J2.c1
          clear hEE
          go_wp2_with fail
          go_region_with (first
            | (go_at_call_of 26 (Value.string p.f0); refine (urlform_Escape.calls _ _ _ HE0'.out).mono ?_; rintro e w' ⟨rfl, hb⟩; have J3 := PInv.step hb (by assumption); have c0' := J3.c0; have c1' := J3.c1)
            | (go_at_call_of 26 (Value.string p.f1); refine (urlform_Escape.calls _ _ _ HE1'.out).mono ?_; rintro e w' ⟨rfl, hb⟩; have J4 := PInv.step hb (by assumption); have c0' := J4.c0; have c1' := J4.c1)
            | (go_at_call 46; refine (Bld.writeString w.heap.size w.heap.size _ _ _ (PInv.b (by assumption)) HW.out ?side2).mono ?_; (case side2 => exact PInv.le (p := p) (by assumption)); rintro e w' ⟨rfl, h2, hb2, _⟩))
          all_goals
            go_wp2
            go_roundw
            case rel =>
              refine ⟨k + 1, by omega, by go_num, ?_, (PInv.k (p := p) (by assumption)).trans hb2⟩
              rw [step_first l0 k hlt hk0 p HPK.out E0 E1 HE0.out HE1.out]
              exact h2
            case measure => simp [intOf]; omega
      · go_wp2_with fail
        refine (Tryd.Builder_String_any w.heap.size w.heap.size _ _ hI (by omega)).mono ?_
        rintro e w1 ⟨rfl, hb1⟩
        go_wp2
        go_ret
        refine ⟨?_, hB.trans hb1⟩
        rw [List.take_of_length_le (by omega)]
        rfl
  · cases h
end Go.Proofs.YtgfnjdpbahecdaaDoor.PAll
