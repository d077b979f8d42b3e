/-
  Bytes in a row of the call's own: appended to, made, handed on.
-/
import Derived.Test.YtfedlgcpgfofjaaDoorDWalk
import Derived.Maps.AppendAt
import Derived.Deep.AppendLies
import Derived.RegionTactic
namespace Go.Proofs.YtfedlgcpgfofjaaDoor.Sha
open Go.RowKit Go.Proofs.YtfedlgcpgfofjaaDoorW.PrintWords
set_option linter.unusedVariables false
theorem info_byte : (Tryd.prog.info? 5).map (fun i => (i.zero, i.size, i.bytes)) = some (some (.int .u8 0), 1, 1) := by kernel_rfl
/-- The slice value v shows the bytes p, in a row of the call's own (from block base on). -/
def Own (w : World) (base : Nat) (v : Value) (p : List Nat) : Prop := w.ownsRow base 5 1 v p.length (p.map v8)
theorem encs_toI (p : List Nat) : encs (Value.int .u8) (toI p) = p.map v8 := by
  simp [encs, toI, v8]
theorem Own.nil (w : World) (base : Nat) : Own w base (.slice none 0 0) [] := ⟨by simp, .inl ⟨rfl, rfl⟩⟩
theorem Own.R {w : World} {base : Nat} {v : Value} {p : List Nat} (h : Own w base v p) (ok : Nat → Prop) (hok : ∀ k, v.ownBlock = some k → ok k) : Kd.R (Kd.int .u8) 5 w base ok v (toI p) := by
  refine Kd.R_of_own (enc := Value.int .u8) (h1 := fun _ => rfl) ?_ hok
  rw [toI_len, encs_toI]
  exact h
theorem Own.of_R {w : World} {base : Nat} {ok : Nat → Prop} {v : Value} {p : List Nat} (h : Kd.R (Kd.int .u8) 5 w base ok v (toI p)) : Own w base v p := by
  have := Kd.own_of_R (enc := Value.int .u8) (h1 := fun _ => rfl) h
  rwa [toI_len, encs_toI] at this
/-- As an argument. -/
theorem Own.arg {w : World} {base : Nat} {v : Value} {p : List Nat} (h : Own w base v p) : ∃ A c, v = .slice A p.length c ∧ p.length ≤ c ∧ C8 w A p.length p := by
  obtain ⟨A, c, he, hl, hc⟩ := Kd.R_reads (h.R (fun _ => True) (fun _ _ => trivial))
  rw [toI_len] at he hl hc
  exact ⟨A, c, he, hl, hc⟩
theorem Own.lt {w : World} {base : Nat} {v : Value} {p : List Nat} (h : Own w base v p) : ∀ k, v.ownBlock = some k → base ≤ k ∧ k < w.heap.size := fun k hk => ⟨own_base h k hk, own_lt h k hk⟩
theorem Own.below {w w' : World} {base : Nat} {v : Value} {p : List Nat} (h : Own w base v p) (hb : Below w.heap.size w w') : Own w' base v p :=
  own_move h (fun k hk => hb.block k (own_lt h k hk))
theorem Own.ne {w : World} {base : Nat} {v : Value} {p : List Nat} (h : Own w base v p) {g t : Nat} {cs : Array Value} (hB : Blk w g t cs) (hne : 5 ≠ t) : v.ownBlock ≠ some g := by
  intro he
  obtain ⟨cells, hc⟩ := own_typed h g he
  unfold Blk at hB
  rw [hc] at hB
  injection hB with hB
  injection hB with _ ht
  exact hne ht
theorem Own.only {w w' : World} {base : Nat} {v : Value} {p : List Nat} {g : Nat} (h : Own w base v p) (O : Only g w w') (hne : v.ownBlock ≠ some g) : Own w' base v p :=
  own_move h (fun k hk => O.block k (fun e => hne (e ▸ hk)))
theorem Own.alloc {w : World} {base : Nat} {v : Value} {p : List Nat} (h : Own w base v p) (o : Obj) : Own (w.alloc o) base v p :=
  own_move h (fun k hk => Below.heap_alloc w o k (own_lt h k hk))
theorem Own.of_Blk {w : World} {g base : Nat} {p : List Nat} (h : Blk w g 5 (c8 p)) (hb : base ≤ g) (hl : p.length ≤ 9223372036854775807) : Own w base (.slice (some ⟨g, 0, none⟩) p.length p.length) p := by
  refine ⟨by rw [List.length_map, Nat.mul_one], .inr ⟨g, p.length, c8 p, rfl, hb, h, Nat.le_refl _, by unfold maxLen; omega, ?_, ?_⟩⟩
  · simp [c8]
  · simp only [Nat.mul_one]
    exact List.take_of_length_le (by simp [c8])
theorem Blk.grown {w w' : World} {g t : Nat} {cs : Array Value} {row : Option Nat} (h : Blk w g t cs) (hb : w.grownBy w' row) (hg : row ≠ some g) : Blk w' g t cs := (hb.block g h.lt (fun e => hg e.symm)).trans h
theorem v8_one (p : List Nat) : ∀ u ∈ p.map v8, u.oneCell' = true := by
  intro u hu
  obtain ⟨x, _, rfl⟩ := List.mem_map.1 hu
  rfl
section
variable {P : Program} (w : World)
theorem run_append_nil_ (base : Nat) (t ty : TypeId) (i : TypeInfo) (ht : P.underlying t = some (.slice 5)) (hi : P.info? 5 = some i)
    (v : Value) (p : List Nat) (hown : Own w base v p) (c : Nat) : (Builtin.append_ #[t, t] ty #[v, .slice none 0 c]).run P w = .ok v w := by
  rcases hown.2 with ⟨rfl, _⟩ | ⟨g, cap, cur, rfl, _, _, hnc, _⟩
  · simp [Builtin.append_, run_underlying ht, sizeOf, typeInfo, hi, Builtin.lenOf, Builtin.firstCells]
  · simp [Builtin.append_, run_underlying ht, sizeOf, typeInfo, hi, Builtin.lenOf, Builtin.firstCells, hnc, storeCells]
theorem run_append_ (base : Nat) (t ty : TypeId) (hinfo : (P.info? 5).map (fun i => (i.zero, i.size, i.bytes)) = some (some (.int .u8 0), 1, 1)) (ht : P.underlying t = some (.slice 5))
    (v : Value) (p : List Nat) (hown : Own w base v p) (A : Option Addr) (c : Nat) (q : List Nat) (hr : C8 w A q.length q)
    (hbytes : p.length + q.length ≤ 140737488355328) (hbase : base ≤ w.heap.size) :
    ∃ v' w', (Builtin.append_ #[t, t] ty #[v, .slice A q.length c]).run P w = .ok v' w' ∧ Own w' base v' (p ++ q) ∧ w.grownBy w' v.ownBlock ∧ (v'.ownBlock = v.ownBlock ∨ v'.ownBlock = some w.heap.size) := by
  obtain ⟨i, hi, hz0, hz1, hz2⟩ := info_parts hinfo
  have hcells : ∀ ad, A = some ad → ∀ j u, (q.map v8)[j]? = some u → w.cell? (ad.add j) = some u := by
    intro ad hA j u hu
    have hj : j < q.length := by
      have := (List.getElem?_eq_some_iff.1 hu).1
      rwa [List.length_map] at this
    obtain ⟨b, o, e, _, hbs⟩ := hr.at_ (by omega)
    rw [hA] at e
    injection e with e
    subst e
    rw [Addr.add_mid, hbs j hj]
    rw [List.getElem?_map, List.getElem?_eq_getElem hj] at hu
    rw [List.getD_eq_getElem?_getD, List.getElem?_eq_getElem hj]
    exact hu
  rcases A with _ | ad
  · have hm : q = [] := by
      rcases Nat.eq_zero_or_pos q.length with h0 | h0
      · exact List.eq_nil_of_length_eq_zero h0
      · obtain ⟨_, _, e, _⟩ := hr.at_ h0
        cases e
    subst hm
    exact ⟨v, w, run_append_nil_ w base t ty i ht hi v p hown c, by simpa using hown, World.grownBy.refl w _, .inl rfl⟩
  · obtain ⟨v', w', hrun, h2, h3, _, h5⟩ := run_append_own_at (P := P) w base t ty 5 i (.int .u8 0) 1 1 ht hi hz0 hz1 hz2 rfl (by omega) v p.length (p.map v8) hown ad q.length c (q.map v8) (by rw [List.length_map, Nat.mul_one]) (hcells ad rfl) (v8_one q) (by unfold maxLen; omega) (by omega) hbase
    refine ⟨v', w', hrun, ?_, h3, h5⟩
    unfold Own
    rw [List.length_append, List.map_append]
    exact h2
variable {w} {ops : Array Oper} {rest : List Oper} {o : Oper} {a : Act} {Q : Exit → Act → World → Prop}
theorem wpl_append (hgd : o.guard = none) (s x : Operand) (t : TypeId) (ho : o.op = .call { callee := .builtin .append, args := #[s, x], argTypes := #[t, t] })
    (hinfo : (P.info? 5).map (fun i => (i.zero, i.size, i.bytes)) = some (some (.int .u8 0), 1, 1)) (ht : P.underlying t = some (.slice 5)) (base : Nat)
    (v : Value) (p : List Nat) (hs : a.eval s = v) (hown : Own w base v p) (A : Option Addr) (c n : Nat) (q : List Nat) (hx : a.eval x = .slice A n c) (hn : n = q.length) (hr : C8 w A q.length q)
    (hbytes : p.length + q.length ≤ 140737488355328) (hbase : base ≤ w.heap.size)
    (h : ∀ v' w', Own w' base v' (p ++ q) → w.grownBy w' v.ownBlock → (v'.ownBlock = v.ownBlock ∨ v'.ownBlock = some w.heap.size) → wpList P ops Q rest (a.put o.dst v') w') : wpList P ops Q (o :: rest) a w :=
  wpList_plain hgd fun _ hK => by
    subst hn
    obtain ⟨v', w', hrun, h2, h3, h4⟩ := run_append_ (P := P) w base t o.type hinfo ht v p hown A c q hr hbytes hbase
    unfold Oper.wp execOp
    simp only [ho, resolve, invoke, builtin, Sem.run_bind, Sem.run_pure, Result.andThen_ok, List.map_toArray, List.map_cons, List.map_nil, hs, hx, hrun]
    exact hK _ _ (h v' w' h2 h3 h4)
/-- One byte, just built. -/
theorem C8.one (w : World) (x : Nat) (n : Nat) (hn : w.heap.size = n) : C8 (w.alloc (.cells #[.int .u8 (x : Int)] 5)) (some ⟨n, 0, none⟩) 1 [x] := by
  subst hn
  refine C8.of_Bs (p := [x]) (fun j hj => ?_) (by simp)
  obtain rfl : j = 0 := by simpa using hj
  rw [(Blk.new w 5 #[.int .u8 (x : Int)]).cell]
  rfl
theorem C8.one_ (w : World) (x : Nat) (xi : Int) (hx : xi = (x : Int)) (n : Nat) (hn : w.heap.size = n) : C8 (w.alloc (.cells #[.int .u8 xi] 5)) (some ⟨n, 0, none⟩) [x].length [x] := by
  subst hx
  exact C8.one w x n hn
end
end Go.Proofs.YtfedlgcpgfofjaaDoor.Sha
