/-
  alone: rows of the call's own, each written full and grown, keep their own marks.
-/
import Derived.Test.YtfedlgcpgfofjaaDoorDMacs
import Derived.ArgAppend
namespace Go.Proofs.YtfedlgcpgfofjaaDoor.Sha
open Go.RowKit Go.Proofs.YtfedlgcpgfofjaaDoorW.PrintWords
set_option linter.unusedVariables false
theorem Own.set_ {w : World} {base g n c : Nat} {p : List Nat} (h : Own w base (.slice (some ⟨g, 0, none⟩) n c) p) (j x : Nat) : Own (w.setCell ⟨g, j, none⟩ (.int .u8 (x : Int))) base (.slice (some ⟨g, 0, none⟩) n c) (p.set j x) := by
  obtain ⟨h1, h2⟩ := h
  refine ⟨by rw [List.length_map, Nat.mul_one], ?_⟩
  rcases h2 with ⟨e, h0⟩ | ⟨g', cap, cur, e, hg, hh, a1, a2, a3, a4⟩
  · cases e
  · injection e with e1 e2 e3
    injection e1 with e1
    injection e1 with e1
    subst e1 e3
    have hB : Blk w g 5 cur := hh
    refine .inr ⟨g, c, cur.setIfInBounds j (.int .u8 (x : Int)), by rw [List.length_set]; exact congrArg (fun z => Value.slice (some ⟨g, 0, none⟩) z c) e2, hg, hB.set_ j _, by rw [List.length_set]; exact a1, a2, by rw [Array.size_setIfInBounds]; exact a3, ?_⟩
    rw [Nat.mul_one] at a4 ⊢
    rw [List.length_set, Array.toList_setIfInBounds, List.take_set, a4, List.map_set]
    rfl
theorem Own.far_ {w : World} {base g : Nat} {v : Value} {p : List Nat} (h : Own w base v p) (j : Nat) (u : Value) (hne : v.ownBlock ≠ some g) : Own (w.setCell ⟨g, j, none⟩ u) base v p :=
  own_move h (fun k hk => Below.heap_setCell w ⟨g, j, none⟩ u k (fun e => hne (by rw [hk, e])))
theorem Own.none_grown {w w' : World} {base : Nat} {v : Value} {p : List Nat} (h : Own w base v p) (G : w.grownBy w' none) : Own w' base v p :=
  own_move h (fun k hk => G.block k (own_lt h k hk) (fun e => by cases e))
/-- A slice with elements, of a row of the call's own, lies at a block's begin. -/
theorem Own.pos {w : World} {base : Nat} {v : Value} {p : List Nat} (h : Own w base v p) (hp : 0 < p.length) : ∃ g c, v = .slice (some ⟨g, 0, none⟩) p.length c ∧ v.ownBlock = some g := by
  rcases h.2 with ⟨e, h0⟩ | ⟨g, cap, cur, e, hg, hh, a1, a2, a3, a4⟩
  · omega
  · exact ⟨g, cap, e, by rw [e]; rfl⟩
theorem Own.blk_frozen {w : World} {base g n c : Nat} {p : List Nat} (h : Own w base (.slice (some ⟨g, 0, none⟩) n c) p) (j : Nat) : w.frozen? ⟨g, j, none⟩ = false := by
  rcases h.2 with ⟨e, h0⟩ | ⟨g', cap, cur, e, hg, hh, a1, a2, a3, a4⟩
  · cases e
  · injection e with e1 e2 e3
    injection e1 with e1
    injection e1 with e1
    subst e1
    exact (show Blk w g 5 cur from hh).frozen j
/-- A family of rows of the call's own, each block with its own index. -/
def Fam (w : World) (base N : Nat) (f : Nat → Nat) (vs : Nat → Value) (ps : Nat → List Nat) : Prop := ∀ l, l < N → Own w base (vs l) (ps l) ∧ ∀ k, (vs l).ownBlock = some k → f k = l
theorem Fam.below {w w' : World} {base N : Nat} {f : Nat → Nat} {vs : Nat → Value} {ps : Nat → List Nat} (h : Fam w base N f vs ps) (hb : Below w.heap.size w w') : Fam w' base N f vs ps :=
  fun l hl => ⟨(h l hl).1.below hb, (h l hl).2⟩
theorem Fam.set_ {w : World} {base N g : Nat} {f : Nat → Nat} {vs : Nat → Value} {ps : Nat → List Nat} (h : Fam w base N f vs ps) (i : Nat) (hi : i < N) {n c : Nat} (hv : vs i = .slice (some ⟨g, 0, none⟩) n c) (j x : Nat) :
    Fam (w.setCell ⟨g, j, none⟩ (.int .u8 (x : Int))) base N f vs (fun l => if l = i then (ps i).set j x else ps l) := by
  intro l hl
  refine ⟨?_, (h l hl).2⟩
  show Own _ base (vs l) (if l = i then (ps i).set j x else ps l)
  by_cases e : l = i
  · subst e
    rw [if_pos rfl, hv]
    have h' := (h l hl).1
    rw [hv] at h'
    exact h'.set_ j x
  · rw [if_neg e]
    refine (h l hl).1.far_ j _ (fun he => e ?_)
    rw [← (h l hl).2 g he, ← (h i hi).2 g (by rw [hv]; rfl)]
/-- Marks that no row bears. -/
theorem Fam.far {w w' : World} {base N : Nat} {f : Nat → Nat} {vs : Nat → Value} {ps : Nat → List Nat} (h : Fam w base N f vs ps) (f' : Nat → Nat) (hf : ∀ k, k < w.heap.size → f' k = f k)
    (hk : ∀ l, l < N → Own w' base (vs l) (ps l)) : Fam w' base N f' vs ps := fun l hl => ⟨hk l hl, fun k e => by rw [hf k (own_lt (h l hl).1 k e)]; exact (h l hl).2 k e⟩
section
variable {P : Program} (w : World)
/-- append of one byte onto a row of the call's own: the row is longer where it lies, or a new one is made and nothing else is turned. -/
theorem run_append_keep (base : Nat) (t ty : TypeId) (hinfo : (P.info? 5).map (fun i => (i.zero, i.size, i.bytes)) = some (some (.int .u8 0), 1, 1)) (ht : P.underlying t = some (.slice 5))
    (v : Value) (p : List Nat) (hown : Own w base v p) (ad : Addr) (c x : Nat) (hr : C8 w (some ad) 1 [x])
    (hbytes : p.length + 1 ≤ 140737488355328) (hbase : base ≤ w.heap.size) :
    ∃ v' w', (Builtin.append_ #[t, t] ty #[v, .slice (some ad) 1 c]).run P w = .ok v' w' ∧ Own w' base v' (p ++ [x]) ∧ w.grownBy w' v.ownBlock ∧
      ((∃ A n c, v = .slice A n c ∧ v' = .slice A (n + 1) c) ∨ (w.grownBy w' none ∧ v'.ownBlock = some w.heap.size)) := by
  obtain ⟨v', w', hrun, h2, h3, h4⟩ := run_append_ (P := P) w base t ty hinfo ht v p hown (some ad) c [x] hr (by simpa using hbytes) hbase
  refine ⟨v', w', hrun, h2, h3, ?_⟩
  rw [show [x].length = 1 from rfl] at hrun
  obtain ⟨g', c', hv', hg'⟩ := h2.pos (by simp)
  obtain ⟨i, hi, hz0, hz1, hz2⟩ := info_parts hinfo
  have hx : ∀ j u, ([Value.int .u8 (x : Int)] : List Value)[j]? = some u → w.cell? (ad.add j) = some u := by
    intro j u hu
    have hj : j = 0 := by
      have := (List.getElem?_eq_some_iff.1 hu).1
      simpa using this
    subst hj
    obtain rfl := Option.some.inj hu
    obtain ⟨b, o, e, _, hbs⟩ := hr.at_ (by omega)
    injection e with e
    subst e
    rw [Addr.add_mid, hbs 0 (by simp)]
    rfl
  rcases hown.2 with ⟨e, h0⟩ | ⟨g, cap, cur, e, hg, hh, a1, a2, a3, a4⟩
  · subst e
    rcases h4 with h4 | h4
    · rw [hg'] at h4
      cases h4
    · exact .inr ⟨h3, h4⟩
  · subst e
    have hB : Blk w g 5 cur := hh
    by_cases hroom : p.length + 1 ≤ cap
    · have h := run_append_room_cells (P := P) w t ty 5 i ht hi g 0 p.length cap ad 1 c [.int .u8 (x : Int)] (by rw [hz1]; rfl) hx (fun u hu => by rw [List.mem_singleton.1 hu]; rfl) hroom
        (fun j hj => by rw [hB.cell, hz1, Array.getElem?_eq_getElem (by simp at hj; omega)]; rfl) (fun j hj => hB.frozen _)
      rw [hrun] at h
      injection h with h _
      exact .inl ⟨_, _, _, rfl, h⟩
    · obtain ⟨v2, w2, hrun2, o2, g2⟩ := run_append_arg_grows (P := P) w t ty 5 i (.int .u8 0) 1 1 ht hi hz0 hz1 hz2 rfl (by omega) ⟨g, 0, none⟩ p.length cap (p.map v8) (by rw [List.length_map, Nat.mul_one])
        (fun j u hj => by
          rw [Addr.add_mid, Nat.zero_add, hB.cell]
          have hlt := (List.getElem?_eq_some_iff.1 hj).1
          rw [List.length_map] at hlt
          rw [Nat.mul_one] at a4
          rw [← a4, List.getElem?_take_of_lt hlt] at hj
          rw [← Array.getElem?_toList]
          exact hj)
        ad 1 c [.int .u8 (x : Int)] rfl hx (by omega) (by unfold maxLen; omega) (by omega)
      rw [hrun] at hrun2
      injection hrun2 with e1 e2
      subst e1 e2
      refine .inr ⟨g2, ?_⟩
      rcases h4 with h4 | h4
      · exact absurd (own_base o2 g' hg') (by
          have hlt := own_lt hown g rfl
          rw [hg'] at h4
          have h5 : some g' = some g := h4
          injection h5 with h5
          omega)
      · exact h4
variable {w} {ops : Array Oper} {rest : List Oper} {o : Oper} {a : Act} {Q : Exit → Act → World → Prop}
theorem wpl_append_keep (hgd : o.guard = none) (s x : Operand) (t : TypeId) (ho : o.op = .call { callee := .builtin .append, args := #[s, x], argTypes := #[t, t] })
    (hinfo : (P.info? 5).map (fun i => (i.zero, i.size, i.bytes)) = some (some (.int .u8 0), 1, 1)) (ht : P.underlying t = some (.slice 5)) (base : Nat)
    (v : Value) (p : List Nat) (hs : a.eval s = v) (hown : Own w base v p) (ad : Addr) (c y : Nat) (hx : a.eval x = .slice (some ad) 1 c) (hr : C8 w (some ad) 1 [y])
    (hbytes : p.length + 1 ≤ 140737488355328) (hbase : base ≤ w.heap.size)
    (h : ∀ v' w', Own w' base v' (p ++ [y]) → w.grownBy w' v.ownBlock → ((∃ A n c, v = .slice A n c ∧ v' = .slice A (n + 1) c) ∨ (w.grownBy w' none ∧ v'.ownBlock = some w.heap.size)) → wpList P ops Q rest (a.put o.dst v') w') : wpList P ops Q (o :: rest) a w :=
  wpList_plain hgd fun _ hK => by
    obtain ⟨v', w', hrun, h2, h3, h4⟩ := run_append_keep (P := P) w base t o.type hinfo ht v p hown ad c y hr hbytes hbase
    unfold Oper.wp execOp
    simp only [ho, resolve, invoke, builtin, Sem.run_bind, Sem.run_pure, Result.andThen_ok, List.map_toArray, List.map_cons, List.map_nil, hs, hx, hrun]
    exact hK _ _ (h v' w' h2 h3 h4)
end
/-- A slice and what was grown of it: it lies at its begin, or in a row of its own. -/
def Twin (v m : Value) : Prop := (∃ A n n' c, v = .slice A n c ∧ m = .slice A n' c ∧ n ≤ n') ∨ Apart v m
theorem Twin.step {w w' : World} {base : Nat} {v m m' : Value} {p q : List Nat} {x : Nat} (hv : Own w base v p) (hm : Own w base m (p ++ q)) (ht : Twin v m) (hm' : Own w' base m' (p ++ q ++ [x])) (G : w.grownBy w' m.ownBlock)
    (hc : (∃ A n c, m = .slice A n c ∧ m' = .slice A (n + 1) c) ∨ (w.grownBy w' none ∧ m'.ownBlock = some w.heap.size)) : Own w' base v p ∧ Twin v m' := by
  rcases hc with ⟨A, n, c, e1, e2⟩ | ⟨hg, hn⟩
  · subst e1 e2
    rcases ht with ⟨A', n0, n', c', ev, em, hle⟩ | ha
    · injection em with m1 m2 m3
      subst m1 m2 m3 ev
      refine ⟨?_, .inl ⟨A, n0, n + 1, c, rfl, rfl, by omega⟩⟩
      have hn0 := hv.c8.1
      have h := hm'.take n0 (by omega)
      rwa [hn0, List.append_assoc, List.take_left', ← hn0] at h
      exact rfl
    · have ho : (Value.slice A (n + 1) c).ownBlock = (Value.slice A n c).ownBlock := by cases A <;> rfl
      exact ⟨hv.far G ha, .inr (fun k hk e => ha k hk (ho ▸ e))⟩
  · refine ⟨hv.none_grown hg, .inr (fun k hk e => ?_)⟩
    rw [hn] at e
    injection e with e
    have := own_lt hv k hk
    omega
/-- What the loops of alone keep: the rows as they were filled, the rows that were grown of them, the row of those. -/
def Q1 (L : Nat → Nat) (l : Nat) : List Nat := List.replicate (L l) (l + 1)
def Q2 (L : Nat → Nat) (l : Nat) : List Nat := List.replicate (L l + 64) (l + 1)
structure Outer (w0 : World) (base N i g : Nat) (cells : Array Value) (L : Nat → Nat) (vs ms : Nat → Value) (f : Nat → Nat) (more : Value) (w : World) : Prop where
  fam : Fam w base N f vs (Q1 L)
  fam2 : Fam w base i f ms (Q2 L)
  row : OwnP w base more ((List.range i).map ms)
  ne : more.ownBlock ≠ some g
  blk : Blk w g 22 cells
  bel : Below base w0 w
  le : base ≤ w.heap.size
structure Mid (w0 : World) (base N i j g : Nat) (cells : Array Value) (L : Nat → Nat) (vs ms : Nat → Value) (f : Nat → Nat) (more m : Value) (w : World) : Prop where
  out : Outer w0 base N i g cells L vs ms f more w
  own : Own w base m (Q1 L i ++ List.replicate j (i + 1))
  col : ∀ k, m.ownBlock = some k → f k = i
  twin : Twin (vs i) m
section
variable {w0 w w' : World} {base N i j g : Nat} {cells : Array Value} {L : Nat → Nat} {vs ms : Nat → Value} {f : Nat → Nat} {more m m' more' : Value}
theorem Outer.alloc (h : Outer w0 base N i g cells L vs ms f more w) (o : Obj) : Outer w0 base N i g cells L vs ms f more (w.alloc o) :=
  ⟨h.fam.below ((Below.refl _ _).alloc (Nat.le_refl _) _), h.fam2.below ((Below.refl _ _).alloc (Nat.le_refl _) _), h.row.alloc o, h.ne, h.blk.alloc o, h.bel.alloc h.le o, Nat.le_trans h.le ((Below.refl w.heap.size w).alloc (Nat.le_refl _) o).size⟩
theorem Mid.alloc (h : Mid w0 base N i j g cells L vs ms f more m w) (o : Obj) : Mid w0 base N i j g cells L vs ms f more m (w.alloc o) := ⟨h.out.alloc o, h.own.alloc o, h.col, h.twin⟩
theorem Mid.start (h : Outer w0 base N i g cells L vs ms f more w) (hi : i < N) : Mid w0 base N i 0 g cells L vs ms f more (vs i) w := by
  obtain ⟨A, c, hv, _, _⟩ := (h.fam i hi).1.arg
  exact ⟨h, by rw [List.replicate_zero, List.append_nil]; exact (h.fam i hi).1, (h.fam i hi).2, .inl ⟨A, _, _, c, hv, hv, Nat.le_refl _⟩⟩
theorem Mid.step (h : Mid w0 base N i j g cells L vs ms f more m w) (hi : i < N) (hm : Own w' base m' (Q1 L i ++ List.replicate j (i + 1) ++ [i + 1])) (G : w.grownBy w' m.ownBlock)
    (hc : (∃ A n c, m = .slice A n c ∧ m' = .slice A (n + 1) c) ∨ (w.grownBy w' none ∧ m'.ownBlock = some w.heap.size)) : ∃ f', Mid w0 base N i (j + 1) g cells L vs ms f' more m' w' := by
  obtain ⟨hvi, ht⟩ := Twin.step (h.out.fam i hi).1 h.own h.twin hm G hc
  have hap : ∀ (u : Value) (l : Nat), l ≠ i → (∀ k, u.ownBlock = some k → f k = l) → Apart u m := fun u l e hu k hk e' => e ((hu k hk).symm.trans (h.col k e'))
  refine ⟨fun k => if k < w.heap.size then f k else i, ⟨⟨?_, ?_, ?_, h.out.ne, ?_, ?_, ?_⟩, ?_, ?_, ht⟩⟩
  · refine h.out.fam.far _ (fun k hk => if_pos hk) fun l hl => ?_
    by_cases e : l = i
    · subst e; exact hvi
    · exact (h.out.fam l hl).1.far G (hap _ l e (h.out.fam l hl).2)
  · exact h.out.fam2.far _ (fun k hk => if_pos hk) fun l hl => (h.out.fam2 l hl).1.far G (hap _ l (by omega) (h.out.fam2 l hl).2)
  · exact h.out.row.far G (Apart.symm (h.own.apartP h.out.row))
  · exact h.out.blk.grown G (h.own.ne h.out.blk (by decide))
  · exact Below.grown h.out.bel G h.out.le (fun k e => own_base h.own k e)
  · exact Nat.le_trans h.out.le G.size
  · rw [List.replicate_succ', ← List.append_assoc]
    exact hm
  · intro k hk
    rcases hc with ⟨A, n, c, e1, e2⟩ | ⟨_, e2⟩
    · subst e1 e2
      have hk' : (Value.slice A n c).ownBlock = some k := by rw [← hk]; cases A <;> rfl
      show (if k < w.heap.size then f k else i) = i
      rw [if_pos (own_lt h.own k hk')]
      exact h.col k hk'
    · rw [e2] at hk
      injection hk with hk
      exact if_neg (by omega)
theorem Mid.push (h : Mid w0 base N i 64 g cells L vs ms f more m w) (hr : OwnP w' base more' ((List.range i).map ms ++ [m])) (G : w.grownBy w' more.ownBlock) (hc : more'.ownBlock = more.ownBlock ∨ more'.ownBlock = some w.heap.size) :
    Outer w0 base N (i + 1) g cells L vs (fun l => if l = i then m else ms l) f more' w' := by
  refine ⟨?_, ?_, ?_, ?_, ?_, ?_, ?_⟩
  · exact h.out.fam.far _ (fun k hk => rfl) fun l hl => (h.out.fam l hl).1.far G ((h.out.fam l hl).1.apartP h.out.row)
  · intro l hl
    show Own w' base (if l = i then m else ms l) (Q2 L l) ∧ ∀ k, (if l = i then m else ms l).ownBlock = some k → f k = l
    by_cases e : l = i
    · subst e
      rw [if_pos rfl]
      refine ⟨?_, h.col⟩
      have ho := h.own.far G (h.own.apartP h.out.row)
      have e2 : Q1 L l ++ List.replicate 64 (l + 1) = Q2 L l := by unfold Q1 Q2; rw [List.replicate_append_replicate]
      rwa [e2] at ho
    · rw [if_neg e]
      have h2 := h.out.fam2 l (by omega)
      exact ⟨h2.1.far G (h2.1.apartP h.out.row), h2.2⟩
  · have e : (List.range (i + 1)).map (fun l => if l = i then m else ms l) = (List.range i).map ms ++ [m] := by
      rw [List.range_succ, List.map_append, List.map_singleton, if_pos rfl]
      congr 1
      refine List.map_congr_left fun l hl => ?_
      rw [if_neg (by have := List.mem_range.1 hl; omega)]
    rw [e]
    exact hr
  · rcases hc with hc | hc
    · rw [hc]; exact h.out.ne
    · rw [hc]
      intro e
      injection e with e
      have := h.out.blk.lt
      omega
  · exact h.out.blk.grown G h.out.ne
  · exact Below.grown h.out.bel G h.out.le (fun k e => own_base h.out.row k e)
  · exact Nat.le_trans h.out.le G.size
theorem Outer.name (h : Outer w0 base N i g cells L vs ms f more w) : ∃ x, x = more ∧ Outer w0 base N i g cells L vs ms f x w := ⟨_, rfl, h⟩
theorem Outer.cells_ (h : Outer w0 base N i g cells L vs ms f more w) : ∃ A c, more = .slice A i c ∧ i ≤ c ∧ ∀ l, l < i → ∃ gm, A = some ⟨gm, 0, none⟩ ∧ w.cell? ⟨gm, l, none⟩ = some (ms l) := by
  have hl : ((List.range i).map ms).length = i := by rw [List.length_map, List.length_range]
  rcases h.row.2 with ⟨e, h0⟩ | ⟨gm, cap, cur, e, hg, hh, a1, a2, a3, a4⟩
  · exact ⟨none, 0, by rw [e, ← hl, h0], by omega, fun l hl' => by omega⟩
  · refine ⟨_, cap, by rw [e, hl], by omega, fun l hl' => ⟨gm, rfl, ?_⟩⟩
    have hB : Blk w gm 22 cur := hh
    rw [hB.cell l, ← Array.getElem?_toList]
    rw [Nat.mul_one, hl] at a4
    have h2 : (cur.toList.take i)[l]? = ((List.range i).map ms)[l]? := by rw [a4]
    rw [List.getElem?_take_of_lt hl', List.getElem?_map, List.getElem?_range hl'] at h2
    exact h2
end
set_option maxRecDepth 100000 in
set_option maxHeartbeats 1000000 in
theorem alone_any (base N g : Nat) (f : Nat → Nat) (vs : Nat → Value) (ps : Nat → List Nat) (cells : Array Value) (w : World) (hN : N ≤ 200) (hB : Blk w g 22 cells) (hcs : ∀ l, l < N → cells[l]? = some (vs l))
    (hF : Fam w base N f vs ps) (hbase : base ≤ w.heap.size) (hlen : ∀ l, l < N → (ps l).length ≤ 1000000000000) :
    Calls Tryd.prog 30 #[.slice (some ⟨g, 0, none⟩) N N] w fun e w' => e = .returned (.bool true) ∧ Below base w w' := by
  have HCS := Lib.hid hcs; have HLEN := Lib.hid hlen
  clear hcs hlen
  go_enter Tryd.func30, Tryd.ntmps30
  go_wp2
  go_loopw [3, 4] (fun v3 v4 wr => ∃ i : Nat, i ≤ N ∧ v3 = .int .i64 (i : Int) ∧ (∃ q : Nat → List Nat, Fam wr base N f vs q ∧ (∀ l, l < N → (q l).length = (ps l).length) ∧ ∀ l, l < i → q l = List.replicate (ps l).length (l + 1)) ∧ Below base w wr ∧ Blk wr g 22 cells) (fun v _ _ => N - (intOf v).toNat)
  case atStart => exact ⟨0, by omega, rfl, ⟨ps, hF, fun l _ => rfl, fun l hl => absurd hl (by omega)⟩, Below.refl _ _, hB⟩
  case round =>
    clear hF hB
    obtain ⟨i, hi, rfl, ⟨q, hF, hq, hqi⟩, hb, hB⟩ := hrel
    by_cases hlt : i < N
    · go_wp2
      go_loopw [4] (fun v ws => ∃ j : Nat, j ≤ (ps i).length ∧ v = .int .i64 (j : Int) ∧ (∃ q : Nat → List Nat, Fam ws base N f vs q ∧ (∀ l, l < N → (q l).length = (ps l).length) ∧ (∀ l, l < i → q l = List.replicate (ps l).length (l + 1)) ∧ ∀ x, x < j → (q i)[x]? = some (i + 1)) ∧ Below base w ws ∧ Blk ws g 22 cells) (fun v _ => (ps i).length - (intOf v).toNat)
      case atStart => exact ⟨0, by omega, rfl, ⟨q, hF, hq, hqi, fun l hl => absurd hl (by omega)⟩, hb, hB⟩
      case round =>
        clear hF hB hq hqi hb
        obtain ⟨j, hj, rfl, ⟨q, hF, hq, hqi, hqj⟩, hb, hB⟩ := hrel
        have hL := HLEN.out i hlt
        have hql := hq i hlt
        by_cases hjt : j < (ps i).length
        · obtain ⟨gi, c, hv, hgi⟩ := (hF i hlt).1.pos (by omega)
          rw [hql] at hv
          have hO := (hF i hlt).1
          rw [hv] at hO
          have c0 : wr.cell? ⟨g, i, none⟩ = some (.slice (some ⟨gi, 0, none⟩) (ps i).length c) := by rw [hB.cell, HCS.out i hlt, hv]
          obtain ⟨x, hx⟩ : ∃ x, (q i)[j]? = some x := ⟨_, List.getElem?_eq_getElem (by omega)⟩
          have c1 : wr.cell? ⟨gi, j, none⟩ = some (.int .u8 (x : Int)) := by have h := hO.cellAt hx; rwa [Nat.zero_add] at h
          have c2 := hO.blk_frozen j
          obtain ⟨n, hn⟩ : ∃ n, n = (ps i).length := ⟨_, rfl⟩
          rw [← hn] at c0 hjt hL
          have H1 := Lib.hid hF; have H2 := Lib.hid hq; have H3 := Lib.hid hqi; have H4 := Lib.hid hqj; have H5 := Lib.hid hql; have H6 := Lib.hid hv; have H7 := Lib.hid hn; have H8 := Lib.hid hO; have H9 := Lib.hid hgi; have H10 := Lib.hid hx; have HB := Lib.hid hB; have Hb := Lib.hid hb
          clear hF hq hqi hqj hql hv hn hO hgi hx hB hb hj
          go_wp2
          rw [show ((i : Int) + 1) = ((i + 1 : Nat) : Int) from rfl]
          refine ⟨⟨j + 1, by have := H7.out; omega, rfl, ⟨_, H1.out.set_ i hlt H6.out j (i + 1), fun l hl => ?_, fun l hl => ?_, fun y hy => ?_⟩, Hb.out.setCell (by have := own_base (H1.out i hlt).1 gi H9.out; exact this) _, HB.out.far (by
            intro e
            obtain ⟨cc, hcc⟩ := own_typed (H1.out i hlt).1 gi H9.out
            have hbb := HB.out
            unfold Blk at hbb
            rw [show g = gi from e, hcc] at hbb
            injection hbb with hbb
            injection hbb with _ ht
            exact absurd ht (by decide)) _⟩, by have := H7.out; simp [intOf]; omega⟩
          · show (if l = i then (q i).set j (i + 1) else q l).length = _
            by_cases e : l = i
            · rw [if_pos e, List.length_set, e]
              exact H2.out i hlt
            · rw [if_neg e]
              exact H2.out l hl
          · show (if l = i then (q i).set j (i + 1) else q l) = _
            rw [if_neg (by omega)]
            exact H3.out l hl
          · show (if i = i then (q i).set j (i + 1) else q i)[y]? = _
            rw [if_pos rfl]
            by_cases e : y = j
            · subst e
              rw [List.getElem?_set_self (by have := H5.out; have := H7.out; omega)]
            · rw [List.getElem?_set_ne (by omega)]
              exact H4.out y (by omega)
        · have ej : j = (ps i).length := by omega
          obtain ⟨A, c, hv, _, _⟩ := (hF i hlt).1.arg
          rw [hql] at hv
          have c0 : wr.cell? ⟨g, i, none⟩ = some (.slice A (ps i).length c) := by rw [hB.cell, HCS.out i hlt, hv]
          have hnext : ∀ l, l < i + 1 → q l = List.replicate (ps l).length (l + 1) := fun l hl => by
            by_cases e : l = i
            · subst e
              refine List.ext_getElem? fun y => ?_
              by_cases hy : y < (ps l).length
              · rw [hqj y (by omega), List.getElem?_replicate, if_pos hy]
              · rw [List.getElem?_eq_none (by omega), List.getElem?_eq_none (by rw [List.length_replicate]; omega)]
            · exact hqi l (by omega)
          obtain ⟨n, hn⟩ : ∃ n, n = (ps i).length := ⟨_, rfl⟩
          rw [← hn] at c0 hjt hL
          have H1 := Lib.hid hF; have H2 := Lib.hid hq; have H3 := Lib.hid hnext; have HB := Lib.hid hB; have Hb := Lib.hid hb
          clear hF hq hqi hqj hql hv hn hB hb hj hnext ej
          go_wp2
          exact ⟨⟨i + 1, by omega, rfl, ⟨q, H1.out, H2.out, H3.out⟩, Hb.out, HB.out⟩, by simp [intOf]; omega⟩
    · obtain ⟨L, hLd⟩ : ∃ L : Nat → Nat, L = fun l => (ps l).length := ⟨_, rfl⟩
      have hO : Outer w base N 0 g cells L vs vs f (.slice none 0 0) wr := by
        refine ⟨fun l hl => ?_, fun l hl => absurd hl (by omega), OwnP.nil _ _, by simp [Value.ownBlock], hB, hb, Nat.le_trans hbase hb.size⟩
        have h := hF l hl
        rw [hqi l (by omega)] at h
        rw [hLd]
        exact h
      have hLL : ∀ l, l < N → L l ≤ 1000000000000 := fun l hl => by rw [hLd]; exact HLEN.out l hl
      have HLL := Lib.hid hLL
      clear hF hB hq hqi hb hLd hLL
      go_wp2
      go_loopw [5, 6, 7, 8] (fun v5 v6 _ _ ws => ∃ (i : Nat) (ms : Nat → Value) (f' : Nat → Nat), i ≤ N ∧ v6 = .int .i64 (i : Int) ∧ Outer w base N i g cells L vs ms f' v5 ws) (fun _ v _ _ _ => N - (intOf v).toNat)
      case atStart => exact ⟨0, vs, f, by omega, rfl, hO⟩
      case round =>
        clear hO
        obtain ⟨k, ms, f', hk, rfl, hO⟩ := hrel
        obtain ⟨more, hme, hO⟩ := hO.name
        subst hme
        by_cases hkt : k < N
        · have c0 : wr.cell? ⟨g, k, none⟩ = some (vs k) := by rw [hO.blk.cell, HCS.out k hkt]
          have hLk := HLL.out k hkt
          have HO := Lib.hid hO
          clear hO
          go_wp2
          go_loopw [7, 8] (fun v7 v8 wq => ∃ (j : Nat) (f2 : Nat → Nat), j ≤ 64 ∧ v8 = .int .i64 (j : Int) ∧ Mid w base N k j g cells L vs ms f2 more v7 wq) (fun _ v _ => 64 - (intOf v).toNat)
          case atStart => exact ⟨0, f', by omega, rfl, Mid.start HO.out hkt⟩
          case round =>
            clear HO c0
            obtain ⟨j, f2, hj, rfl, hM⟩ := hrel
            by_cases hjt : j < 64
            · have HM := Lib.hid hM
              clear hM
              go_wp2_with (at_builtin; go_loud (refine wpl_append_keep rfl _ _ _ rfl info_byte Tryd.underlying22 base _ _ rfl (HM.out.alloc _).own _ _ (k + 1) rfl (C8.one_ _ _ _ rfl _ rfl) (by simp [Q1]; omega) (HM.out.alloc _).out.le ?_); intro v' w4 O4 G4 D4)
              go_roundw
              case rel =>
                obtain ⟨f3, h3⟩ := (HM.out.alloc _).step hkt O4 G4 D4
                exact ⟨j + 1, f3, by omega, by go_num, h3⟩
              case measure => simp [intOf]; omega
            · have ej : j = 64 := by omega
              subst ej
              obtain ⟨Am, cm, hm, _, _⟩ := hM.own.arg
              obtain ⟨nm, hnm⟩ : ∃ nm, nm = (Q1 L k ++ List.replicate 64 (k + 1)).length := ⟨_, rfl⟩
              rw [← hnm] at hm
              subst hm
              have HM := Lib.hid hM
              clear hM hnm
              go_wp2_with (at_builtin; go_loud (refine wpl_appendP rfl _ _ _ rfl info_slice Tryd.underlying35 base _ _ rfl (HM.out.alloc _).out.row _ _ _ rfl rfl ((Blk.new _ 22 #[.slice Am nm cm]).cell 0) (by simp; omega) (HM.out.alloc _).out.le ?_); intro v' w4 O4 G4 D4)
              go_roundw
              case rel => exact ⟨k + 1, _, f2, by omega, by go_num, (HM.out.alloc _).push O4 G4 D4⟩
              case measure => simp [intOf]; omega
        · have ek : k = N := by omega
          subst ek
          obtain ⟨A, c, rfl, hAc, hcell⟩ := hO.cells_
          have HO := Lib.hid hO; have HCELL := Lib.hid hcell
          clear hO hcell
          go_wp2
          go_loopw [9, 10] (fun v9 _ wq => ∃ x : Nat, x ≤ k ∧ v9 = .int .i64 (x : Int) ∧ wq = wr) (fun v _ _ => k - (intOf v).toNat)
          case atStart => exact ⟨0, by omega, rfl, rfl⟩
          case round =>
            obtain ⟨x, hx, rfl, rfl⟩ := hrel
            by_cases hxt : x < k
            · obtain ⟨gm, rfl, cm⟩ := HCELL.out x hxt
              obtain ⟨g2, c2, hv2, _⟩ := (HO.out.fam2 x hxt).1.pos (by simp [Q2])
              obtain ⟨A1, c1, hv1, _, _⟩ := (HO.out.fam x hxt).1.arg
              have O2 := (HO.out.fam2 x hxt).1
              have O1 := (HO.out.fam x hxt).1
              rw [show (Q2 L x).length = L x + 64 by simp [Q2]] at hv2
              rw [show (Q1 L x).length = L x by simp [Q1]] at hv1
              rw [hv2] at cm O2
              rw [hv1] at O1
              have cg : wr.cell? ⟨g, x, none⟩ = some (.slice A1 (L x) c1) := by rw [HO.out.blk.cell, HCS.out x hxt, hv1]
              have hn0 := HLL.out x hxt
              have q2 : ∀ y, y < L x + 64 → wr.cell? ⟨g2, y, none⟩ = some (.int .u8 ((x : Int) + 1)) := fun y hy => by
                have h := O2.cellAt (j := y) (x := x + 1) (by unfold Q2; rw [List.getElem?_replicate, if_pos hy])
                rw [Nat.zero_add] at h
                exact h
              have q1 : ∀ y, y < L x → ∃ g1, A1 = some ⟨g1, 0, none⟩ ∧ wr.cell? ⟨g1, y, none⟩ = some (.int .u8 ((x : Int) + 1)) := fun y hy => by
                obtain ⟨g1, c1', hv1', _⟩ := O1.pos (by simp [Q1]; omega)
                injection hv1' with e1 e2 e3
                subst e1
                have h := O1.cellAt (j := y) (x := x + 1) (by unfold Q1; rw [List.getElem?_replicate, if_pos hy])
                rw [Nat.zero_add] at h
                exact ⟨g1, rfl, h⟩
              obtain ⟨n, hn⟩ : ∃ n, n = L x := ⟨_, rfl⟩
              rw [← hn] at cm cg hn0 q2 q1
              have HQ1 := Lib.hid q1; have HQ2 := Lib.hid q2
              clear O1 O2 hv1 hv2 q1 q2 hn
              go_wp2
              go_loopw [10] (fun v wq => ∃ y : Nat, y ≤ n + 64 ∧ v = .int .i64 (y : Int) ∧ wq = wr) (fun v _ => n + 64 - (intOf v).toNat)
              case atStart => exact ⟨0, by omega, rfl, rfl⟩
              case round =>
                obtain ⟨y, hy, rfl, rfl⟩ := hrel
                by_cases hyt : y < n + 64
                · have e2 := HQ2.out y hyt
                  by_cases hy1 : y < n
                  · obtain ⟨g1, rfl, e1⟩ := HQ1.out y hy1
                    go_wp2
                    go_roundw
                    case rel => exact ⟨y + 1, by omega, by go_num, by first | rfl | trivial⟩
                    case measure => simp [intOf]; omega
                  · go_wp2
                    go_roundw
                    case rel => exact ⟨y + 1, by omega, by go_num, by first | rfl | trivial⟩
                    case measure => simp [intOf]; omega
                · go_wp2
                  go_roundw
                  case rel => exact ⟨x + 1, by omega, by go_num, by first | rfl | trivial⟩
                  case measure => simp [intOf]; omega
            · go_wp2
              go_ret
              exact ⟨rfl, HO.out.bel⟩
/-- Rows of the call's own that lie apart, as a family. -/
theorem Fam.of_apart {w : World} {base N : Nat} {vs : Nat → Value} {ps : Nat → List Nat} (h : ∀ l, l < N → Own w base (vs l) (ps l)) (ha : ∀ l l', l < N → l' < N → l ≠ l' → Apart (vs l) (vs l')) : ∃ f, Fam w base N f vs ps := by
  classical
  refine ⟨fun k => if h : ∃ l, l < N ∧ (vs l).ownBlock = some k then h.choose else 0, fun l hl => ⟨h l hl, fun k hk => ?_⟩⟩
  have hex : ∃ l, l < N ∧ (vs l).ownBlock = some k := ⟨l, hl, hk⟩
  show (if h : ∃ l, l < N ∧ (vs l).ownBlock = some k then h.choose else 0) = l
  rw [dif_pos hex]
  have hc := hex.choose_spec
  by_cases e : hex.choose = l
  · exact e
  · exact absurd hk (ha _ _ hc.1 hl e k hc.2)
/-- Made one behind the other. -/
theorem Apart.of_span {u v : Value} {a : Nat} (hu : ∀ k, u.ownBlock = some k → k < a) (hv : ∀ k, v.ownBlock = some k → a ≤ k) : Apart u v := fun k h1 h2 => by
  have := hu k h1
  have := hv k h2
  omega
end Go.Proofs.YtfedlgcpgfofjaaDoor.Sha
