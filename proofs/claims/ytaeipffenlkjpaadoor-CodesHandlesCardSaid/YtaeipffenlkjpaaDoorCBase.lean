/-
  Words for memory: blocks, bytes at an address, rows of the call's own.
-/
import Derived.Test.YtaeipffenlkjpaaDoorProg
import Derived.WalkKit
import Derived.KernelRfl
import Derived.Lib.Hide
import Derived.LoopTactic
import Derived.Deep.QuietTactic
import Derived.BigQuiet
import Derived.Deep.RegionHeld3
import Derived.Deep.DrawnRows
import Derived.Laws.BitsLemmas
import Derived.Laws.Rows
import Derived.Outline
import Derived.IntWalk
import Derived.Below
import Derived.StillTailTactics
import Derived.Test.YtaeipffenlkjpaaDoorWWords
import Derived.Deep.MidRow
import Derived.Laws.CopyOwn
import Derived.OwnWalk
import Derived.Maps.AppendAt
import Derived.Deep.AppendLies
import Derived.RegionTactic
namespace Go.Proofs.YtaeipffenlkjpaaDoor.Sha
open Go.RowKit Go.Proofs.YtaeipffenlkjpaaDoorW.PrintWords
set_option linter.unusedVariables false
set_option linter.unusedSimpArgs false
/-- Every element is below a bound. -/
def All (B : Nat) (l : List Nat) : Prop := ∀ x ∈ l, x < B
theorem All.getD {B : Nat} {l : List Nat} (h : All B l) (hB : 0 < B) (i : Nat) : l.getD i 0 < B := by
  rw [List.getD_eq_getElem?_getD]
  cases e : l[i]? with
  | none => exact hB
  | some x => exact h x (List.mem_of_getElem? e)
theorem All.app {B : Nat} {l m : List Nat} (h : All B l) (k : All B m) : All B (l ++ m) := by
  intro x hx
  rcases List.mem_append.1 hx with h' | h'
  · exact h x h'
  · exact k x h'
theorem All.one {B x : Nat} (h : x < B) : All B [x] := by
  intro y hy
  obtain rfl := List.mem_singleton.1 hy
  exact h
theorem All.nil {B : Nat} : All B [] := fun _ h => by cases h
theorem All.take {B : Nat} {l : List Nat} (h : All B l) (n : Nat) : All B (l.take n) := fun x hx => h x (List.mem_of_mem_take hx)
theorem All.drop {B : Nat} {l : List Nat} (h : All B l) (n : Nat) : All B (l.drop n) := fun x hx => h x (List.mem_of_mem_drop hx)
theorem All.rep {B x : Nat} (h : x < B) (n : Nat) : All B (List.replicate n x) := fun y hy => by rw [List.eq_of_mem_replicate hy]; exact h
theorem getD_take (l : List Nat) (n i : Nat) (h : i < n) : (l.take n).getD i 0 = l.getD i 0 := by
  rw [List.getD_eq_getElem?_getD, List.getElem?_take, if_pos h, ← List.getD_eq_getElem?_getD]
def v8 (x : Nat) : Value := .int .u8 (x : Int)
def c8 (l : List Nat) : Array Value := (l.map v8).toArray
/-- Bytes that lie at an address. -/
def Bs (w : World) (b o : Nat) (p : List Nat) : Prop := ∀ j, j < p.length → w.cell? ⟨b, o + j, none⟩ = some (v8 (p.getD j 0))
def Blk (w : World) (g : Nat) (t : TypeId) (cs : Array Value) : Prop := w.heap[g]? = some (.cells cs t (0, 0))
section
variable {w w' : World} {g : Nat} {t : TypeId} {cs : Array Value}
theorem Blk.lt (h : Blk w g t cs) : g < w.heap.size := by
  rcases Nat.lt_or_ge g w.heap.size with hlt | hge
  · exact hlt
  · unfold Blk at h; rw [Array.getElem?_eq_none hge] at h; cases h
theorem Blk.cell (h : Blk w g t cs) (i : Nat) : w.cell? ⟨g, i, none⟩ = cs[i]? := cell_of_row w g i cs t (0, 0) h
theorem Blk.frozen (h : Blk w g t cs) (i : Nat) : w.frozen? ⟨g, i, none⟩ = false := by
  unfold Blk at h
  simp [World.frozen?, h]
theorem Blk.new (w : World) (t : TypeId) (cs : Array Value) : Blk (w.alloc (.cells cs t)) w.heap.size t cs := heap_alloc_new w _
theorem Blk.new_ (w : World) (t : TypeId) (cs : Array Value) (n : Nat) (h : w.heap.size = n) : Blk (w.alloc (.cells cs t)) n t cs := h ▸ Blk.new w t cs
theorem Blk.drew (h : Blk w g t cs) : Blk w.drew g t cs := h
theorem Blk.drewN (h : Blk w g t cs) (n : Nat) : Blk (w.drewN n) g t cs := h
theorem Blk.alloc (h : Blk w g t cs) (o : Obj) : Blk (w.alloc o) g t cs := (Below.heap_alloc w o g h.lt).trans h
theorem Blk.set_ (h : Blk w g t cs) (i : Nat) (u : Value) : Blk (w.setCell ⟨g, i, none⟩ u) g t (cs.setIfInBounds i u) := by
  unfold Blk at h ⊢
  simp [World.setCell, Array.getElem?_modify, h]
theorem Blk.far (h : Blk w g t cs) {p : Addr} (hp : g ≠ p.block) (u : Value) : Blk (w.setCell p u) g t cs := (Below.heap_setCell w p u g hp).trans h
theorem Blk.below {B : Nat} (h : Blk w g t cs) (hb : Below B w w') (hg : g < B) : Blk w' g t cs := (hb.block g hg).trans h
end
theorem below_drewN {B : Nat} {a w : World} (h : Below B a w) (n : Nat) : Below B a (w.drewN n) := ⟨h.os, h.tape, h.output, h.size, h.block⟩
theorem c8_at (l : List Nat) (i : Nat) (h : i < l.length) : (c8 l)[i]? = some (v8 (l.getD i 0)) := by
  simp [c8, List.getD_eq_getElem?_getD, List.getElem?_eq_getElem h]
theorem Blk.w8 {w : World} {g t : Nat} {l : List Nat} (h : Blk w g t (c8 l)) (i : Nat) (hi : i < l.length) : w.cell? ⟨g, i, none⟩ = some (.int .u8 (l.getD i 0 : Nat)) := (h.cell i).trans (c8_at l i hi)
/-- Naturals as the print's integers. -/
def toI (p : List Nat) : List Int := p.map (fun x : Nat => (Int.ofNat x : Int))
theorem toI_len (p : List Nat) : (toI p).length = p.length := List.length_map _
theorem toI_getD (p : List Nat) (j : Nat) : (toI p).getD j 0 = ((p.getD j 0 : Nat) : Int) := by
  unfold toI
  rw [List.getD_eq_getElem?_getD, List.getElem?_map, List.getD_eq_getElem?_getD]
  cases p[j]? <;> rfl
theorem whole_addr {w : World} {a : Addr} {v : Value} (h : w.cell? a = some v) : a.spot = none := by
  unfold World.cell? at h
  split at h
  · split at h
    · cases h
    · rename_i hs
      simpa using hs
  · cases h
/-- Bytes that a slice shows. -/
def C8 (w : World) (A : Option Addr) (n : Nat) (p : List Nat) : Prop := Kd.C (Kd.int .u8) w A n (toI p)
theorem C8.len {w : World} {A : Option Addr} {n : Nat} {p : List Nat} (h : C8 w A n p) : p.length = n := by
  have := h.1
  rwa [toI_len] at this
theorem C8.below {w w' : World} {A : Option Addr} {n : Nat} {p : List Nat} (h : C8 w A n p) (hb : Below w.heap.size w w') : C8 w' A n p := Kd.C_below h hb
theorem C8.at_ {w : World} {A : Option Addr} {n : Nat} {p : List Nat} (h : C8 w A n p) (h0 : 0 < n) : ∃ b o, A = some ⟨b, o, none⟩ ∧ b < w.heap.size ∧ Bs w b o p := by
  have hr := Kd.reads_of_C (enc := Value.int .u8) (d := (0 : Int)) (h1 := fun _ => rfl) h
  obtain ⟨ad, e, hc⟩ := hr.2.2 h0
  have hl := h.len
  have hs := whole_addr (show w.cell? ad = _ by have := hc 0 h0; rwa [show ad.add 0 = ad from rfl] at this)
  obtain ⟨b, o, s⟩ := ad
  obtain rfl : s = none := hs
  refine ⟨b, o, e, block_lt_of_cell (a := ⟨b, o, none⟩) (by have := hc 0 h0; rwa [show (Addr.mk b o none).add 0 = ⟨b, o, none⟩ from rfl] at this), fun j hj => ?_⟩
  have := hc j (by omega)
  rw [Addr.add_mid, toI_getD] at this
  exact this
theorem C8.of_Bs {w : World} {b o : Nat} {p : List Nat} (h : Bs w b o p) (hl : p.length ≤ 9223372036854775807) : C8 w (some ⟨b, o, none⟩) p.length p := by
  refine Kd.C_of_reads (enc := Value.int .u8) (d := (0 : Int)) (h1 := fun _ => rfl) ⟨toI_len p, hl, fun h0 => ⟨_, rfl, fun j hj => ?_⟩⟩
  rw [Addr.add_mid, toI_getD]
  exact h j hj
theorem C8.nil (w : World) (A : Option Addr) : C8 w A 0 [] :=
  Kd.C_of_reads (enc := Value.int .u8) (d := (0 : Int)) (h1 := fun _ => rfl) ⟨by simp [toI], by omega, fun h0 => absurd h0 (by omega)⟩
theorem Bs.below {w w' : World} {b o : Nat} {p : List Nat} {B : Nat} (h : Bs w b o p) (hb : Below B w w') (hlt : b < B) : Bs w' b o p :=
  fun j hj => (hb.cell (p := ⟨b, o + j, none⟩) hlt).trans (h j hj)
theorem Bs.sub {w : World} {b o : Nat} {p : List Nat} (h : Bs w b o p) (k n : Nat) (hn : k + n ≤ p.length) : Bs w b (o + k) ((p.drop k).take n) := by
  intro j hj
  rw [List.length_take, List.length_drop] at hj
  rw [Nat.add_assoc, h (k + j) (by omega), getD_take _ _ _ (by omega), List.getD_eq_getElem?_getD, List.getD_eq_getElem?_getD, List.getElem?_drop]
/-- Block g alone has turned, and stands as long as it was. -/
structure Only (g : Nat) (w w' : World) : Prop where
  os : w'.os = w.os
  tape : w'.tape = w.tape
  output : w'.output = w.output
  size : w'.heap.size = w.heap.size
  block : ∀ k, k ≠ g → w'.heap[k]? = w.heap[k]?
theorem Only.setRow (w : World) (g : Nat) (cs : Array Value) : Only g w (w.setRow g cs) :=
  ⟨rfl, rfl, rfl, by simp [World.setRow], fun k hk => setRow_other w g k cs hk⟩
theorem Blk.only {w w' : World} {k g t : Nat} {cs : Array Value} (h : Blk w k t cs) (O : Only g w w') (hne : k ≠ g) : Blk w' k t cs := (O.block k hne).trans h
theorem info_byte : (Tryd.prog.info? 5).map (fun i => (i.zero, i.size, i.bytes)) = some (some (.int .u8 0), 1, 1) := by kernel_rfl
/-- The slice value v shows the bytes p, in a row of the call's own (from block base on). -/
def Own (w : World) (base : Nat) (v : Value) (p : List Nat) : Prop := w.ownsRow base 5 1 v p.length (p.map v8)
theorem encs_toI (p : List Nat) : encs (Value.int .u8) (toI p) = p.map v8 := by
  simp [encs, toI, v8]
theorem Own.nil (w : World) (base : Nat) : Own w base (.slice none 0 0) [] := ⟨by simp, .inl ⟨rfl, rfl⟩⟩
theorem Own.R {w : World} {base : Nat} {v : Value} {p : List Nat} (h : Own w base v p) (ok : Nat → Prop) (hok : ∀ k, v.ownBlock = some k → ok k) : Kd.R (Kd.int .u8) 5 w base ok v (toI p) := by
  refine Kd.R_of_own (enc := Value.int .u8) (h1 := fun _ => rfl) ?_ hok
  rw [toI_len, encs_toI]
  exact h
theorem Own.of_R {w : World} {base : Nat} {ok : Nat → Prop} {v : Value} {p : List Nat} (h : Kd.R (Kd.int .u8) 5 w base ok v (toI p)) : Own w base v p := by
  have := Kd.own_of_R (enc := Value.int .u8) (h1 := fun _ => rfl) h
  rwa [toI_len, encs_toI] at this
/-- As an argument. -/
theorem Own.arg {w : World} {base : Nat} {v : Value} {p : List Nat} (h : Own w base v p) : ∃ A c, v = .slice A p.length c ∧ p.length ≤ c ∧ C8 w A p.length p := by
  obtain ⟨A, c, he, hl, hc⟩ := Kd.R_reads (h.R (fun _ => True) (fun _ _ => trivial))
  rw [toI_len] at he hl hc
  exact ⟨A, c, he, hl, hc⟩
theorem Own.lt {w : World} {base : Nat} {v : Value} {p : List Nat} (h : Own w base v p) : ∀ k, v.ownBlock = some k → base ≤ k ∧ k < w.heap.size := fun k hk => ⟨own_base h k hk, own_lt h k hk⟩
theorem Own.below {w w' : World} {base : Nat} {v : Value} {p : List Nat} (h : Own w base v p) (hb : Below w.heap.size w w') : Own w' base v p :=
  own_move h (fun k hk => hb.block k (own_lt h k hk))
theorem Own.ne {w : World} {base : Nat} {v : Value} {p : List Nat} (h : Own w base v p) {g t : Nat} {cs : Array Value} (hB : Blk w g t cs) (hne : 5 ≠ t) : v.ownBlock ≠ some g := by
  intro he
  obtain ⟨cells, hc⟩ := own_typed h g he
  unfold Blk at hB
  rw [hc] at hB
  injection hB with hB
  injection hB with _ ht
  exact hne ht
theorem Own.only {w w' : World} {base : Nat} {v : Value} {p : List Nat} {g : Nat} (h : Own w base v p) (O : Only g w w') (hne : v.ownBlock ≠ some g) : Own w' base v p :=
  own_move h (fun k hk => O.block k (fun e => hne (e ▸ hk)))
theorem Own.alloc {w : World} {base : Nat} {v : Value} {p : List Nat} (h : Own w base v p) (o : Obj) : Own (w.alloc o) base v p :=
  own_move h (fun k hk => Below.heap_alloc w o k (own_lt h k hk))
theorem Own.of_Blk {w : World} {g base : Nat} {p : List Nat} (h : Blk w g 5 (c8 p)) (hb : base ≤ g) (hl : p.length ≤ 9223372036854775807) : Own w base (.slice (some ⟨g, 0, none⟩) p.length p.length) p := by
  refine ⟨by rw [List.length_map, Nat.mul_one], .inr ⟨g, p.length, c8 p, rfl, hb, h, Nat.le_refl _, by unfold maxLen; omega, ?_, ?_⟩⟩
  · simp [c8]
  · simp only [Nat.mul_one]
    exact List.take_of_length_le (by simp [c8])
theorem Blk.grown {w w' : World} {g t : Nat} {cs : Array Value} {row : Option Nat} (h : Blk w g t cs) (hb : w.grownBy w' row) (hg : row ≠ some g) : Blk w' g t cs := (hb.block g h.lt (fun e => hg e.symm)).trans h
theorem v8_one (p : List Nat) : ∀ u ∈ p.map v8, u.oneCell' = true := by
  intro u hu
  obtain ⟨x, _, rfl⟩ := List.mem_map.1 hu
  rfl
section
variable {P : Program} (w : World)
theorem run_append_nil_ (base : Nat) (t ty : TypeId) (i : TypeInfo) (ht : P.underlying t = some (.slice 5)) (hi : P.info? 5 = some i)
    (v : Value) (p : List Nat) (hown : Own w base v p) (c : Nat) : (Builtin.append_ #[t, t] ty #[v, .slice none 0 c]).run P w = .ok v w := by
  rcases hown.2 with ⟨rfl, _⟩ | ⟨g, cap, cur, rfl, _, _, hnc, _⟩
  · simp [Builtin.append_, run_underlying ht, sizeOf, typeInfo, hi, Builtin.lenOf, Builtin.firstCells]
  · simp [Builtin.append_, run_underlying ht, sizeOf, typeInfo, hi, Builtin.lenOf, Builtin.firstCells, hnc, storeCells]
theorem run_append_ (base : Nat) (t ty : TypeId) (hinfo : (P.info? 5).map (fun i => (i.zero, i.size, i.bytes)) = some (some (.int .u8 0), 1, 1)) (ht : P.underlying t = some (.slice 5))
    (v : Value) (p : List Nat) (hown : Own w base v p) (A : Option Addr) (c : Nat) (q : List Nat) (hr : C8 w A q.length q)
    (hbytes : p.length + q.length ≤ 140737488355328) (hbase : base ≤ w.heap.size) :
    ∃ v' w', (Builtin.append_ #[t, t] ty #[v, .slice A q.length c]).run P w = .ok v' w' ∧ Own w' base v' (p ++ q) ∧ w.grownBy w' v.ownBlock ∧ (v'.ownBlock = v.ownBlock ∨ v'.ownBlock = some w.heap.size) := by
  obtain ⟨i, hi, hz0, hz1, hz2⟩ := info_parts hinfo
  have hcells : ∀ ad, A = some ad → ∀ j u, (q.map v8)[j]? = some u → w.cell? (ad.add j) = some u := by
    intro ad hA j u hu
    have hj : j < q.length := by
      have := (List.getElem?_eq_some_iff.1 hu).1
      rwa [List.length_map] at this
    obtain ⟨b, o, e, _, hbs⟩ := hr.at_ (by omega)
    rw [hA] at e
    injection e with e
    subst e
    rw [Addr.add_mid, hbs j hj]
    rw [List.getElem?_map, List.getElem?_eq_getElem hj] at hu
    rw [List.getD_eq_getElem?_getD, List.getElem?_eq_getElem hj]
    exact hu
  rcases A with _ | ad
  · have hm : q = [] := by
      rcases Nat.eq_zero_or_pos q.length with h0 | h0
      · exact List.eq_nil_of_length_eq_zero h0
      · obtain ⟨_, _, e, _⟩ := hr.at_ h0
        cases e
    subst hm
    exact ⟨v, w, run_append_nil_ w base t ty i ht hi v p hown c, by simpa using hown, World.grownBy.refl w _, .inl rfl⟩
  · obtain ⟨v', w', hrun, h2, h3, _, h5⟩ := run_append_own_at (P := P) w base t ty 5 i (.int .u8 0) 1 1 ht hi hz0 hz1 hz2 rfl (by omega) v p.length (p.map v8) hown ad q.length c (q.map v8) (by rw [List.length_map, Nat.mul_one]) (hcells ad rfl) (v8_one q) (by unfold maxLen; omega) (by omega) hbase
    refine ⟨v', w', hrun, ?_, h3, h5⟩
    unfold Own
    rw [List.length_append, List.map_append]
    exact h2
end
section
variable {P : Program} (w : World)
variable {w} {ops : Array Oper} {rest : List Oper} {o : Oper} {a : Act} {Q : Exit → Act → World → Prop}
theorem wpl_append (hgd : o.guard = none) (s x : Operand) (t : TypeId) (ho : o.op = .call { callee := .builtin .append, args := #[s, x], argTypes := #[t, t] })
    (hinfo : (P.info? 5).map (fun i => (i.zero, i.size, i.bytes)) = some (some (.int .u8 0), 1, 1)) (ht : P.underlying t = some (.slice 5)) (base : Nat)
    (v : Value) (p : List Nat) (hs : a.eval s = v) (hown : Own w base v p) (A : Option Addr) (c n : Nat) (q : List Nat) (hx : a.eval x = .slice A n c) (hn : n = q.length) (hr : C8 w A q.length q)
    (hbytes : p.length + q.length ≤ 140737488355328) (hbase : base ≤ w.heap.size)
    (h : ∀ v' w', Own w' base v' (p ++ q) → w.grownBy w' v.ownBlock → (v'.ownBlock = v.ownBlock ∨ v'.ownBlock = some w.heap.size) → wpList P ops Q rest (a.put o.dst v') w') : wpList P ops Q (o :: rest) a w :=
  wpList_plain hgd fun _ hK => by
    subst hn
    obtain ⟨v', w', hrun, h2, h3, h4⟩ := run_append_ (P := P) w base t o.type hinfo ht v p hown A c q hr hbytes hbase
    unfold Oper.wp execOp
    simp only [ho, resolve, invoke, builtin, Sem.run_bind, Sem.run_pure, Result.andThen_ok, List.map_toArray, List.map_cons, List.map_nil, hs, hx, hrun]
    exact hK _ _ (h v' w' h2 h3 h4)
/-- One byte, just built. -/
theorem C8.one (w : World) (x : Nat) (n : Nat) (hn : w.heap.size = n) : C8 (w.alloc (.cells #[.int .u8 (x : Int)] 5)) (some ⟨n, 0, none⟩) 1 [x] := by
  subst hn
  refine C8.of_Bs (p := [x]) (fun j hj => ?_) (by simp)
  obtain rfl : j = 0 := by simpa using hj
  rw [(Blk.new w 5 #[.int .u8 (x : Int)]).cell]
  rfl
theorem C8.one_ (w : World) (x : Nat) (xi : Int) (hx : xi = (x : Int)) (n : Nat) (hn : w.heap.size = n) : C8 (w.alloc (.cells #[.int .u8 xi] 5)) (some ⟨n, 0, none⟩) [x].length [x] := by
  subst hx
  exact C8.one w x n hn
end
theorem Own.arg_ {w : World} {base : Nat} {v : Value} {p : List Nat} (h : Own w base v p) : ∃ A n c, n = p.length ∧ v = .slice A n c ∧ C8 w A p.length p := by
  obtain ⟨A, c, he, _, hc⟩ := h.arg
  exact ⟨A, _, c, rfl, he, hc⟩
theorem Own.grown {w w' : World} {base : Nat} {v : Value} {p : List Nat} {row : Option Nat} (h : Own w base v p) (hb : w.grownBy w' row) (hne : ∀ k, row = some k → v.ownBlock ≠ some k) : Own w' base v p :=
  own_move h (fun k hk => hb.block k (own_lt h k hk) (fun e => hne k e.symm hk))
theorem Bs.grown {w w' : World} {b o g : Nat} {p : List Nat} (h : Bs w b o p) (hb : w.grownBy w' (some g)) (hlt : b < w.heap.size) (hne : b ≠ g) : Bs w' b o p :=
  fun j hj => (World.cell?_of_block (a := ⟨b, o + j, none⟩) (hb.block b hlt (fun e => hne (by injection e)))).trans (h j hj)
section
variable {P : Program} {w : World} {ops : Array Oper} {rest : List Oper} {o : Oper} {a : Act} {Q : Exit → Act → World → Prop}
theorem wpl_set (hgd : o.guard = none) (ty : TypeId) (x y : Operand) (ho : o.op = .store ty x y) (g i : Nat) (hx : a.eval x = .pointer (some ⟨g, i, none⟩)) (t : TypeId) (cs : Array Value) (v : Value) (hy : a.eval y = v) (hvc : v.cells = #[v])
    (hv : v.oneCell' = true) (hB : Blk w g t cs) (hi : i < cs.size) (hs : (P.info? ty).map (·.size) = some 1) (h : ∀ w', Blk w' g t (cs.setIfInBounds i v) → Only g w w' → wpList P ops Q rest (a.put o.dst undef) w') : wpList P ops Q (o :: rest) a w := by
  have hst := run_storeCells_at P g i t [v] 0 cs w hB (by simp only [List.length_singleton]; omega) (by simpa using hv)
  have e : (cs.toList.take i ++ [v] ++ cs.toList.drop (i + 1)).toArray = cs.setIfInBounds i v := by
    apply Array.ext'
    rw [Array.toList_setIfInBounds, List.set_eq_take_append_cons_drop, if_pos (by simpa using hi)]
    simp
  refine wpList_plain hgd fun _ hK => ?_
  unfold Oper.wp execOp
  cases hq : P.info? ty with
  | none => simp [hq] at hs
  | some q =>
    have h1 : q.size = 1 := by simpa [hq] using hs
    have hrun : (storeVar ty ⟨g, i, none⟩ v).run P w = .ok () (w.setRow g (cs.setIfInBounds i v)) := by
      rw [← e]
      simp only [Nat.add_zero, List.length_singleton] at hst
      simp [storeVar, sizeOf, typeInfo, hq, hvc, h1] at hst ⊢
      exact hst
    simp only [ho, hx, hy, Instr.storeAt, Instr.sureAddr, Sem.run_bind, Sem.run_pure, Result.andThen_ok, hrun]
    exact hK _ _ (h _ (setRow_heap w g _ _ t _ hB) (Only.setRow w g _))
end
theorem C8.lit (w : World) (p : List Nat) (n m : Nat) (fr : Nat × Nat) (hn : w.heap.size = n) (hm : m = p.length) (hl : p.length ≤ 1000000) : C8 (w.alloc (.cells (c8 p) 5 fr)) (some ⟨n, 0, none⟩) m p := by
  subst hn; subst hm
  refine C8.of_Bs (fun j hj => ?_) (by omega)
  rw [Nat.zero_add, cell_of_row _ w.heap.size j (c8 p) 5 fr (heap_alloc_new w _)]
  exact c8_at p j hj
theorem all_dec {B : Nat} {l : List Nat} (h : (l.all fun x => decide (x < B)) = true) : All B l := fun x hx => of_decide_eq_true (List.all_eq_true.1 h x hx)
/-- Integers that are bytes, as naturals. -/
def toN (l : List Int) : List Nat := l.map Int.toNat
theorem toI_toN {l : List Int} (h : ∀ x ∈ l, 0 ≤ x) : toI (toN l) = l := by
  unfold toI toN
  rw [List.map_map]
  conv => rhs; rw [← List.map_id l]
  apply List.map_congr_left
  intro x hx
  have := h x hx
  simp
  omega
theorem toN_all {l : List Int} (h : ∀ x ∈ l, x < 256) : All 256 (toN l) := by
  intro y hy
  obtain ⟨x, hx, rfl⟩ := List.mem_map.1 hy
  have := h x hx
  omega
theorem toI_app (a b : List Nat) : toI (a ++ b) = toI a ++ toI b := List.map_append ..
theorem C8.take {w : World} {A : Option Addr} {n : Nat} {p : List Nat} (h : C8 w A n p) (m : Nat) (hm : m ≤ n) : C8 w A m (p.take m) := by
  rcases Nat.eq_zero_or_pos m with h0 | h0
  · subst h0
    rw [List.take_zero]
    exact C8.nil w A
  · have hn := h.len
    obtain ⟨b, o, rfl, hlt, hbs⟩ := h.at_ (by omega)
    have hb : Bs w b o (p.take m) := fun j hj => by
      rw [List.length_take] at hj
      rw [hbs j (by omega), getD_take _ _ _ (by omega)]
    have hl : (p.take m).length = m := by rw [List.length_take]; omega
    have h9 := h.2.1
    have := C8.of_Bs hb (by omega)
    rwa [hl] at this
theorem byte_of_wf {y : Int} (h : (Lit.int .u8 y).wf = true) : 0 ≤ y ∧ y < 256 := by
  simp [Lit.wf, IntKind.min, IntKind.max, IntKind.bits, IntKind.signed] at h
  omega
theorem bytes_of_ok {l : List Int} (h : ∀ y, y ∈ l → (Lit.int .u8 y).wf = true) : toI (toN l) = l ∧ All 256 (toN l) :=
  ⟨toI_toN fun x hx => (byte_of_wf (h x hx)).1, toN_all fun x hx => (byte_of_wf (h x hx)).2⟩
theorem toN_len (l : List Int) : (toN l).length = l.length := List.length_map _
theorem sum_ones (l : List Int) : (l.map fun _ => 1).sum = l.length := by
  induction l with
  | nil => rfl
  | cons x l ih => simp [ih]; omega
/-- Not one row. -/
def Apart (u v : Value) : Prop := ∀ k, u.ownBlock = some k → v.ownBlock ≠ some k
theorem Apart.symm {u v : Value} (h : Apart u v) : Apart v u := fun k hk e => h k e hk
theorem Own.far {w w' : World} {base : Nat} {u v : Value} {q : List Nat} (h : Own w base u q) (G : w.grownBy w' v.ownBlock) (ha : Apart u v) : Own w' base u q :=
  own_move h (fun k hk => G.block k (own_lt h k hk) (fun e => ha k hk e.symm))
theorem Own.c8 {w : World} {base : Nat} {A : Option Addr} {n c : Nat} {p : List Nat} (h : Own w base (.slice A n c) p) : n = p.length ∧ n ≤ c ∧ C8 w A p.length p := by
  obtain ⟨A', c', he, hl, hC⟩ := h.arg
  injection he with e1 e2 e3
  subst e1 e2 e3
  exact ⟨rfl, hl, hC⟩
theorem Own.nil_alloc (w : World) (base g : Nat) (hg : g = w.heap.size) (hb : base ≤ g) : Own (w.alloc (.cells #[] 5)) base (.slice (some ⟨g, 0, none⟩) 0 0) [] := Own.of_Blk (p := []) (Blk.new_ w 5 #[] g hg.symm) hb (by simp)
theorem C8.of_Blk {w : World} {g t : Nat} {S : List Nat} (h : Blk w g t ([] ++ S.map v8 ++ []).toArray) (n : Nat) (hn : n = S.length) (hl : n ≤ 9223372036854775807) : C8 w (some ⟨g, 0, none⟩) n S := by
  subst hn
  rw [List.nil_append, List.append_nil] at h
  exact C8.of_Bs (fun i hi => (h.cell (0 + i)).trans (by rw [List.getElem?_toArray, List.getElem?_map, Nat.zero_add, List.getElem?_eq_getElem hi, List.getD_eq_getElem?_getD, List.getElem?_eq_getElem hi]; rfl)) hl
theorem Own.cellAt {w : World} {base b o n c : Nat} {p : List Nat} (h : Own w base (.slice (some ⟨b, o, none⟩) n c) p) {j x : Nat} (hx : p[j]? = some x) : w.cell? ⟨b, o + j, none⟩ = some (.int .u8 (x : Int)) := by
  obtain ⟨h1, h2, hC⟩ := h.c8
  have hj := (List.getElem?_eq_some_iff.1 hx).1
  obtain ⟨b', o', e, _, hbs⟩ := hC.at_ (by omega)
  injection e with e
  injection e with e1 e2 e3
  subst e1 e2
  rw [hbs j hj, List.getD_eq_getElem?_getD, hx]
  rfl
theorem Own.only_new {w w' : World} {base : Nat} {v : Value} {p : List Nat} {o : Obj} (h : Own w base v p) (O : Only w.heap.size (w.alloc o) w') : Own w' base v p :=
  (h.alloc o).only O (fun e => by have := own_lt h _ e; omega)
theorem wpList_wanted {P : Program} {ops : Array Oper} {Q : Exit → Act → World → Prop} {a : Act} {w : World} {rest : List Oper} {o : Oper} (hw : Region.wanted o (yielded ops a.tmps) = true)
    (h : ∀ K : Act → World → Prop, (∀ a w, wpList P ops Q rest a w → K a w) → o.wp P a w K Q) : wpList P ops Q (o :: rest) a w :=
  wpList_step fun K hK => by rw [if_pos hw]; exact h K hK
section
variable {P : Program} {w : World} {ops : Array Oper} {rest : List Oper} {o : Oper} {a : Act} {Q : Exit → Act → World → Prop}
theorem wplw_append (hgd : Region.wanted o (yielded ops a.tmps) = true) (s x : Operand) (t : TypeId) (ho : o.op = .call { callee := .builtin .append, args := #[s, x], argTypes := #[t, t] })
    (hinfo : (P.info? 5).map (fun i => (i.zero, i.size, i.bytes)) = some (some (.int .u8 0), 1, 1)) (ht : P.underlying t = some (.slice 5)) (base : Nat)
    (v : Value) (p : List Nat) (hs : a.eval s = v) (hown : Own w base v p) (A : Option Addr) (c n : Nat) (q : List Nat) (hx : a.eval x = .slice A n c) (hn : n = q.length) (hr : C8 w A q.length q)
    (hbytes : p.length + q.length ≤ 140737488355328) (hbase : base ≤ w.heap.size)
    (h : ∀ v' w', Own w' base v' (p ++ q) → w.grownBy w' v.ownBlock → (v'.ownBlock = v.ownBlock ∨ v'.ownBlock = some w.heap.size) → wpList P ops Q rest (a.put o.dst v') w') : wpList P ops Q (o :: rest) a w :=
  wpList_wanted hgd fun _ hK => by
    subst hn
    obtain ⟨v', w', hrun, h2, h3, h4⟩ := run_append_ (P := P) w base t o.type hinfo ht v p hown A c q hr hbytes hbase
    unfold Oper.wp execOp
    simp only [ho, resolve, invoke, builtin, Sem.run_bind, Sem.run_pure, Result.andThen_ok, List.map_toArray, List.map_cons, List.map_nil, hs, hx, hrun]
    exact hK _ _ (h v' w' h2 h3 h4)
end
theorem Own.weak {w : World} {base base' : Nat} {v : Value} {p : List Nat} (h : Own w base v p) (hb : base' ≤ base) : Own w base' v p := own_weaken h hb
theorem Own.take {w : World} {base n c : Nat} {A : Option Addr} {p : List Nat} (h : Own w base (.slice A n c) p) (m : Nat) (hm : m ≤ n) : Own w base (.slice A m c) (p.take m) := by
  obtain ⟨hn, hc, _⟩ := h.c8
  obtain ⟨h1, h2⟩ := h
  have hl : (p.take m).length = m := by rw [List.length_take]; omega
  refine ⟨by rw [List.length_map, Nat.mul_one], ?_⟩
  rcases h2 with ⟨e, h0⟩ | ⟨g, cap, cur, e, hg, hh, a1, a2, a3, a4⟩
  · injection e with e1 e2 e3
    have : m = 0 := by omega
    subst this e1 e3
    exact .inl ⟨rfl, hl⟩
  · injection e with e1 e2 e3
    subst e1 e3
    rw [hl]
    refine .inr ⟨g, c, cur, rfl, hg, hh, by omega, a2, a3, ?_⟩
    rw [Nat.mul_one] at a4 ⊢
    rw [List.map_take, ← a4, List.take_take, Nat.min_eq_left (by omega)]
section
variable {P : Program} {w : World} {ops : Array Oper} {rest : List Oper} {o : Oper} {a : Act} {Q : Exit → Act → World → Prop}
theorem wpr_append {K : Act → World → Prop} (s x : Operand) (t : TypeId) (ho : o.op = .call { callee := .builtin .append, args := #[s, x], argTypes := #[t, t] })
    (hinfo : (P.info? 5).map (fun i => (i.zero, i.size, i.bytes)) = some (some (.int .u8 0), 1, 1)) (ht : P.underlying t = some (.slice 5)) (base : Nat)
    (v : Value) (p : List Nat) (hs : a.eval s = v) (hown : Own w base v p) (A : Option Addr) (c n : Nat) (q : List Nat) (hx : a.eval x = .slice A n c) (hn : n = q.length) (hr : C8 w A q.length q)
    (hbytes : p.length + q.length ≤ 140737488355328) (hbase : base ≤ w.heap.size)
    (h : ∀ v' w', Own w' base v' (p ++ q) → w.grownBy w' v.ownBlock → (v'.ownBlock = v.ownBlock ∨ v'.ownBlock = some w.heap.size) → K (a.put o.dst v') w') : Oper.wp P o a w K Q := by
  subst hn
  obtain ⟨v', w', hrun, h2, h3, h4⟩ := run_append_ (P := P) w base t o.type hinfo ht v p hown A c q hr hbytes hbase
  unfold Oper.wp execOp
  simp only [ho, resolve, invoke, builtin, Sem.run_bind, Sem.run_pure, Result.andThen_ok, List.map_toArray, List.map_cons, List.map_nil, hs, hx, hrun]
  exact h v' w' h2 h3 h4
end
theorem Own.set_ {w : World} {base g n c : Nat} {p : List Nat} (h : Own w base (.slice (some ⟨g, 0, none⟩) n c) p) (j x : Nat) : Own (w.setCell ⟨g, j, none⟩ (.int .u8 (x : Int))) base (.slice (some ⟨g, 0, none⟩) n c) (p.set j x) := by
  obtain ⟨h1, h2⟩ := h
  refine ⟨by rw [List.length_map, Nat.mul_one], ?_⟩
  rcases h2 with ⟨e, h0⟩ | ⟨g', cap, cur, e, hg, hh, a1, a2, a3, a4⟩
  · cases e
  · injection e with e1 e2 e3
    injection e1 with e1
    injection e1 with e1
    subst e1 e3
    have hB : Blk w g 5 cur := hh
    refine .inr ⟨g, c, cur.setIfInBounds j (.int .u8 (x : Int)), by rw [List.length_set]; exact congrArg (fun z => Value.slice (some ⟨g, 0, none⟩) z c) e2, hg, hB.set_ j _, by rw [List.length_set]; exact a1, a2, by rw [Array.size_setIfInBounds]; exact a3, ?_⟩
    rw [Nat.mul_one] at a4 ⊢
    rw [List.length_set, Array.toList_setIfInBounds, List.take_set, a4, List.map_set]
    rfl
theorem Own.far_ {w : World} {base g : Nat} {v : Value} {p : List Nat} (h : Own w base v p) (j : Nat) (u : Value) (hne : v.ownBlock ≠ some g) : Own (w.setCell ⟨g, j, none⟩ u) base v p :=
  own_move h (fun k hk => Below.heap_setCell w ⟨g, j, none⟩ u k (fun e => hne (by rw [hk, e])))
theorem Own.none_grown {w w' : World} {base : Nat} {v : Value} {p : List Nat} (h : Own w base v p) (G : w.grownBy w' none) : Own w' base v p :=
  own_move h (fun k hk => G.block k (own_lt h k hk) (fun e => by cases e))
/-- A slice with elements, of a row of the call's own, lies at a block's begin. -/
theorem Own.pos {w : World} {base : Nat} {v : Value} {p : List Nat} (h : Own w base v p) (hp : 0 < p.length) : ∃ g c, v = .slice (some ⟨g, 0, none⟩) p.length c ∧ v.ownBlock = some g := by
  rcases h.2 with ⟨e, h0⟩ | ⟨g, cap, cur, e, hg, hh, a1, a2, a3, a4⟩
  · omega
  · exact ⟨g, cap, e, by rw [e]; rfl⟩
theorem Own.blk_frozen {w : World} {base g n c : Nat} {p : List Nat} (h : Own w base (.slice (some ⟨g, 0, none⟩) n c) p) (j : Nat) : w.frozen? ⟨g, j, none⟩ = false := by
  rcases h.2 with ⟨e, h0⟩ | ⟨g', cap, cur, e, hg, hh, a1, a2, a3, a4⟩
  · cases e
  · injection e with e1 e2 e3
    injection e1 with e1
    injection e1 with e1
    subst e1
    exact (show Blk w g 5 cur from hh).frozen j
end Go.Proofs.YtaeipffenlkjpaaDoor.Sha
