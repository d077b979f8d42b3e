/-
  Words for walks over arrays that lie in blocks: a part of a block is read, written, copied into.
-/
import Derived.Test.YtfedlgcpgfofjaaDoorDTurn
import Derived.Test.YtfedlgcpgfofjaaDoorWWords
import Derived.Deep.MidRow
import Derived.Laws.CopyOwn
import Derived.OwnWalk
namespace Go.Proofs.YtfedlgcpgfofjaaDoor.Sha
open Go.RowKit Go.Proofs.YtfedlgcpgfofjaaDoorW.PrintWords
set_option linter.unusedVariables false
/-- Naturals as the print's integers. -/
def toI (p : List Nat) : List Int := p.map (fun x : Nat => (Int.ofNat x : Int))
theorem toI_len (p : List Nat) : (toI p).length = p.length := List.length_map _
theorem toI_getD (p : List Nat) (j : Nat) : (toI p).getD j 0 = ((p.getD j 0 : Nat) : Int) := by
  unfold toI
  rw [List.getD_eq_getElem?_getD, List.getElem?_map, List.getD_eq_getElem?_getD]
  cases p[j]? <;> rfl
theorem whole_addr {w : World} {a : Addr} {v : Value} (h : w.cell? a = some v) : a.spot = none := by
  unfold World.cell? at h
  split at h
  · split at h
    · cases h
    · rename_i hs
      simpa using hs
  · cases h
/-- Bytes that a slice shows. -/
def C8 (w : World) (A : Option Addr) (n : Nat) (p : List Nat) : Prop := Kd.C (Kd.int .u8) w A n (toI p)
theorem C8.len {w : World} {A : Option Addr} {n : Nat} {p : List Nat} (h : C8 w A n p) : p.length = n := by
  have := h.1
  rwa [toI_len] at this
theorem C8.below {w w' : World} {A : Option Addr} {n : Nat} {p : List Nat} (h : C8 w A n p) (hb : Below w.heap.size w w') : C8 w' A n p := Kd.C_below h hb
theorem C8.at_ {w : World} {A : Option Addr} {n : Nat} {p : List Nat} (h : C8 w A n p) (h0 : 0 < n) : ∃ b o, A = some ⟨b, o, none⟩ ∧ b < w.heap.size ∧ Bs w b o p := by
  have hr := Kd.reads_of_C (enc := Value.int .u8) (d := (0 : Int)) (h1 := fun _ => rfl) h
  obtain ⟨ad, e, hc⟩ := hr.2.2 h0
  have hl := h.len
  have hs := whole_addr (show w.cell? ad = _ by have := hc 0 h0; rwa [show ad.add 0 = ad from rfl] at this)
  obtain ⟨b, o, s⟩ := ad
  obtain rfl : s = none := hs
  refine ⟨b, o, e, block_lt_of_cell (a := ⟨b, o, none⟩) (by have := hc 0 h0; rwa [show (Addr.mk b o none).add 0 = ⟨b, o, none⟩ from rfl] at this), fun j hj => ?_⟩
  have := hc j (by omega)
  rw [Addr.add_mid, toI_getD] at this
  exact this
theorem C8.of_Bs {w : World} {b o : Nat} {p : List Nat} (h : Bs w b o p) (hl : p.length ≤ 9223372036854775807) : C8 w (some ⟨b, o, none⟩) p.length p := by
  refine Kd.C_of_reads (enc := Value.int .u8) (d := (0 : Int)) (h1 := fun _ => rfl) ⟨toI_len p, hl, fun h0 => ⟨_, rfl, fun j hj => ?_⟩⟩
  rw [Addr.add_mid, toI_getD]
  exact h j hj
theorem C8.nil (w : World) (A : Option Addr) : C8 w A 0 [] :=
  Kd.C_of_reads (enc := Value.int .u8) (d := (0 : Int)) (h1 := fun _ => rfl) ⟨by simp [toI], by omega, fun h0 => absurd h0 (by omega)⟩
theorem Bs.below {w w' : World} {b o : Nat} {p : List Nat} {B : Nat} (h : Bs w b o p) (hb : Below B w w') (hlt : b < B) : Bs w' b o p :=
  fun j hj => (hb.cell (p := ⟨b, o + j, none⟩) hlt).trans (h j hj)
theorem Bs.sub {w : World} {b o : Nat} {p : List Nat} (h : Bs w b o p) (k n : Nat) (hn : k + n ≤ p.length) : Bs w b (o + k) ((p.drop k).take n) := by
  intro j hj
  rw [List.length_take, List.length_drop] at hj
  rw [Nat.add_assoc, h (k + j) (by omega), getD_take _ _ _ (by omega), List.getD_eq_getElem?_getD, List.getD_eq_getElem?_getD, List.getElem?_drop]

/-- Block g alone has turned, and stands as long as it was. -/
structure Only (g : Nat) (w w' : World) : Prop where
  os : w'.os = w.os
  tape : w'.tape = w.tape
  output : w'.output = w.output
  size : w'.heap.size = w.heap.size
  block : ∀ k, k ≠ g → w'.heap[k]? = w.heap[k]?
theorem Only.setRow (w : World) (g : Nat) (cs : Array Value) : Only g w (w.setRow g cs) :=
  ⟨rfl, rfl, rfl, by simp [World.setRow], fun k hk => setRow_other w g k cs hk⟩
theorem Blk.only {w w' : World} {k g t : Nat} {cs : Array Value} (h : Blk w k t cs) (O : Only g w w') (hne : k ≠ g) : Blk w' k t cs := (O.block k hne).trans h
theorem Only.below {w w' : World} {B g : Nat} {a : World} (O : Only g w w') (h : Below B a w) (hg : B ≤ g) : Below B a w' :=
  h.trans ⟨O.os, O.tape, O.output, by rw [O.size]; exact Nat.le_refl _, fun k hk => O.block k (by omega)⟩
theorem Only.drew {w w' : World} {g : Nat} (O : Only g w w') : Only g w.drew w' := ⟨O.os, O.tape, O.output, O.size, O.block⟩
section
variable {P : Program} {w : World} {ops : Array Oper} {rest : List Oper} {o : Oper} {a : Act} {Q : Exit → Act → World → Prop}
theorem range_of_blk {g t : Nat} {pre mid post : List Value} (h : Blk w g t (pre ++ mid ++ post).toArray) : w.rangeAt g pre.length mid := by
  intro j v hv
  rw [h.cell]
  have hj := (List.getElem?_eq_some_iff.1 hv).1
  simp only [List.getElem?_toArray]
  rw [List.append_assoc, List.getElem?_append_right (by omega), Nat.add_sub_cancel_left, List.getElem?_append_left hj]
  exact hv
theorem wpl_load (hgd : o.guard = none) (ty : TypeId) (x : Operand) (ho : o.op = .load ty x) (g off : Nat) (hx : a.eval x = .pointer (some ⟨g, off, none⟩)) (t : TypeId) (pre mid post : List Value)
    (hB : Blk w g t (pre ++ mid ++ post).toArray) (hoff : pre.length = off) (d : TypeDesc) (hu : P.underlying ty = some d) (hd : d.isRow = true) (hi : (P.info? ty).map (·.size) = some mid.length)
    (h : wpList P ops Q rest (a.put o.dst (.agg mid.toArray)) w) : wpList P ops Q (o :: rest) a w :=
  wpList_load_mid hgd ty x ho g off hx mid d (hoff ▸ range_of_blk hB) hu hd hi h
theorem run_storeVar_blk (g off : Nat) (ty t : TypeId) (pre mid post new : List Value) (hB : Blk w g t (pre ++ mid ++ post).toArray) (hoff : pre.length = off) (hn : new.length = mid.length)
    (hi : (P.info? ty).map (·.size) = some new.length) (h1 : ∀ v ∈ new, v.oneCell' = true) :
    (storeVar ty ⟨g, off, none⟩ (.agg new.toArray)).run P w = .ok () (w.setRow g (pre ++ new ++ post).toArray) := by
  have hs := run_storeCells_at P g off t new 0 (pre ++ mid ++ post).toArray w hB (by simp only [List.size_toArray, List.length_append]; omega) h1
  have e : List.take off (pre ++ mid ++ post) ++ new ++ List.drop (off + new.length) (pre ++ mid ++ post) = pre ++ new ++ post := by
    rw [List.append_assoc pre mid post, List.take_left' hoff, ← List.append_assoc pre mid post, List.drop_left' (by rw [List.length_append]; omega)]
  simp only [Nat.add_zero, e] at hs
  cases hq : P.info? ty with
  | none => simp [hq] at hi
  | some i =>
    have hsz : i.size = new.length := by simpa [hq] using hi
    simp [storeVar, sizeOf, typeInfo, hq, Value.cells, hsz, hs]
theorem wpl_store (hgd : o.guard = none) (ty : TypeId) (x y : Operand) (ho : o.op = .store ty x y) (g off : Nat) (hx : a.eval x = .pointer (some ⟨g, off, none⟩)) (t : TypeId) (pre mid post new : List Value)
    (hy : a.eval y = .agg new.toArray) (hB : Blk w g t (pre ++ mid ++ post).toArray) (hoff : pre.length = off) (hn : new.length = mid.length) (hi : (P.info? ty).map (·.size) = some new.length)
    (h1 : ∀ v ∈ new, v.oneCell' = true) (h : ∀ w', Blk w' g t (pre ++ new ++ post).toArray → Only g w w' → wpList P ops Q rest (a.put o.dst undef) w') : wpList P ops Q (o :: rest) a w := by
  refine wpList_plain hgd fun _ hK => ?_
  unfold Oper.wp execOp
  simp only [ho, hx, hy, Instr.storeAt, Instr.sureAddr, Sem.run_bind, Sem.run_pure, Result.andThen_ok, run_storeVar_blk g off ty t pre mid post new hB hoff hn hi h1]
  exact hK _ _ (h _ (setRow_heap w g _ _ t _ hB) (Only.setRow w g _))
theorem wpl_copy (hgd : o.guard = none) (d s : Operand) (dT sT : TypeId) (ho : o.op = .call { callee := .builtin .copy, args := #[d, s], argTypes := #[dT, sT] }) (elem : TypeId)
    (hu : P.underlying dT = some (.slice elem)) (hsz : (P.info? elem).map (·.size) = some 1) (dp sp : Option Addr) (dLen dCap sLen sCap : Nat) (hd : a.eval d = .slice dp dLen dCap) (hs : a.eval s = .slice sp sLen sCap)
    (g off : Nat) (t : TypeId) (pre mid post new : List Value) (hB : Blk w g t (pre ++ mid ++ post).toArray) (hoff : pre.length = off) (hn : new.length = mid.length) (hmin : new.length = Nat.min sLen dLen)
    (hpos : 0 < new.length → dp = some ⟨g, off, none⟩ ∧ ∃ ad, sp = some ad ∧ ∀ j v, new[j]? = some v → w.cell? (ad.add j) = some v) (h1 : ∀ v ∈ new, v.oneCell' = true)
    (h : ∀ w', Blk w' g t (pre ++ new ++ post).toArray → Only g w w' → wpList P ops Q rest (a.put o.dst (goInt new.length)) w') : wpList P ops Q (o :: rest) a w := by
  by_cases h0 : new.length = 0
  · obtain rfl : new = [] := List.eq_nil_of_length_eq_zero h0
    obtain rfl : mid = [] := List.eq_nil_of_length_eq_zero (by rw [← hn]; rfl)
    refine wpList_copy_nothing hgd d s dT sT ho elem hu hsz dp sp dLen dCap sLen sCap hd hs (by simpa using hmin.symm) ?_
    exact h w hB ⟨rfl, rfl, rfl, rfl, fun _ _ => rfl⟩
  · obtain ⟨rfl, ad, rfl, hsrc⟩ := hpos (by omega)
    refine wpList_copy_own hgd d s dT sT ho elem hu hsz g off dLen dCap ad sLen sCap hd hs (pre ++ mid ++ post).toArray t hB new hmin hsrc (by simp only [List.size_toArray, List.length_append]; omega) h1 ?_
    have e : List.take off (pre ++ mid ++ post) ++ (new ++ List.drop (off + new.length) (pre ++ mid ++ post)) = pre ++ new ++ post := by
      rw [List.append_assoc pre mid post, List.take_left' hoff, ← List.append_assoc pre mid post, List.drop_left' (by rw [List.length_append]; omega), List.append_assoc]
    rw [List.toList_toArray, e]
    exact h _ (setRow_heap w g _ _ t _ hB) (Only.setRow w g _)
end
end Go.Proofs.YtfedlgcpgfofjaaDoor.Sha
