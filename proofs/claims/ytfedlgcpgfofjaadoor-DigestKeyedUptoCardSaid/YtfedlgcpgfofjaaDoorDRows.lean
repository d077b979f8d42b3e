/-
  Rows of the call's own beside each other.
-/
import Derived.Test.YtfedlgcpgfofjaaDoorDMac
import Derived.Test.YtfedlgcpgfofjaaDoorDTabs2
namespace Go.Proofs.YtfedlgcpgfofjaaDoor.Sha
open Go.RowKit Go.Proofs.YtfedlgcpgfofjaaDoorW.PrintWords
set_option linter.unusedVariables false
/-- Not one row. -/
def Apart (u v : Value) : Prop := ∀ k, u.ownBlock = some k → v.ownBlock ≠ some k
theorem Apart.symm {u v : Value} (h : Apart u v) : Apart v u := fun k hk e => h k e hk
theorem Apart.nil_left (v : Value) : Apart (.slice none 0 0) v := fun k hk => by simp [Value.ownBlock] at hk
theorem Apart.nil_right (v : Value) : Apart v (.slice none 0 0) := (Apart.nil_left v).symm
theorem Own.far {w w' : World} {base : Nat} {u v : Value} {q : List Nat} (h : Own w base u q) (G : w.grownBy w' v.ownBlock) (ha : Apart u v) : Own w' base u q :=
  own_move h (fun k hk => G.block k (own_lt h k hk) (fun e => ha k hk e.symm))
theorem Apart.grow {w : World} {base : Nat} {u v v' : Value} {q : List Nat} {n : Nat} (ha : Apart u v) (h : Own w base u q) (hn : w.heap.size ≤ n) (hv : v'.ownBlock = v.ownBlock ∨ v'.ownBlock = some n) : Apart u v' := fun k hk e => by
  rcases hv with hv | hv
  · exact ha k hk (hv ▸ e)
  · rw [hv] at e
    injection e with e
    have := own_lt h k hk
    omega
theorem Own.c8 {w : World} {base : Nat} {A : Option Addr} {n c : Nat} {p : List Nat} (h : Own w base (.slice A n c) p) : n = p.length ∧ n ≤ c ∧ C8 w A p.length p := by
  obtain ⟨A', c', he, hl, hC⟩ := h.arg
  injection he with e1 e2 e3
  subst e1 e2 e3
  exact ⟨rfl, hl, hC⟩
theorem Own.nil_alloc (w : World) (base g : Nat) (hg : g = w.heap.size) (hb : base ≤ g) : Own (w.alloc (.cells #[] 5)) base (.slice (some ⟨g, 0, none⟩) 0 0) [] := Own.of_Blk (p := []) (Blk.new_ w 5 #[] g hg.symm) hb (by simp)
theorem flat_join (ps : List (List Nat)) : ps.flatten.length ≤ (joinOf ps).length := by
  induction ps with
  | nil => simp [joinOf]
  | cons p ps ih =>
    have e : joinOf (p :: ps) = (eight p.length ++ p) ++ joinOf ps := rfl
    rw [e, List.flatten_cons, List.length_append, List.length_append, List.length_append]
    omega
theorem C8.of_Blk {w : World} {g t : Nat} {S : List Nat} (h : Blk w g t ([] ++ S.map v8 ++ []).toArray) (n : Nat) (hn : n = S.length) (hl : n ≤ 9223372036854775807) : C8 w (some ⟨g, 0, none⟩) n S := by
  subst hn
  rw [List.nil_append, List.append_nil] at h
  exact C8.of_Bs (fun i hi => (h.cell (0 + i)).trans (by rw [List.getElem?_toArray, List.getElem?_map, Nat.zero_add, List.getElem?_eq_getElem hi, List.getD_eq_getElem?_getD, List.getElem?_eq_getElem hi]; rfl)) hl
theorem Own.cellAt {w : World} {base b o n c : Nat} {p : List Nat} (h : Own w base (.slice (some ⟨b, o, none⟩) n c) p) {j x : Nat} (hx : p[j]? = some x) : w.cell? ⟨b, o + j, none⟩ = some (.int .u8 (x : Int)) := by
  obtain ⟨h1, h2, hC⟩ := h.c8
  have hj := (List.getElem?_eq_some_iff.1 hx).1
  obtain ⟨b', o', e, _, hbs⟩ := hC.at_ (by omega)
  injection e with e
  injection e with e1 e2 e3
  subst e1 e2
  rw [hbs j hj, List.getD_eq_getElem?_getD, hx]
  rfl
theorem Own.only_new {w w' : World} {base : Nat} {v : Value} {p : List Nat} {o : Obj} (h : Own w base v p) (O : Only w.heap.size (w.alloc o) w') : Own w' base v p :=
  (h.alloc o).only O (fun e => by have := own_lt h _ e; omega)
theorem wpList_wanted {P : Program} {ops : Array Oper} {Q : Exit → Act → World → Prop} {a : Act} {w : World} {rest : List Oper} {o : Oper} (hw : Region.wanted o (yielded ops a.tmps) = true)
    (h : ∀ K : Act → World → Prop, (∀ a w, wpList P ops Q rest a w → K a w) → o.wp P a w K Q) : wpList P ops Q (o :: rest) a w :=
  wpList_step fun K hK => by rw [if_pos hw]; exact h K hK
section
variable {P : Program} {w : World} {ops : Array Oper} {rest : List Oper} {o : Oper} {a : Act} {Q : Exit → Act → World → Prop}
theorem wplw_append (hgd : Region.wanted o (yielded ops a.tmps) = true) (s x : Operand) (t : TypeId) (ho : o.op = .call { callee := .builtin .append, args := #[s, x], argTypes := #[t, t] })
    (hinfo : (P.info? 5).map (fun i => (i.zero, i.size, i.bytes)) = some (some (.int .u8 0), 1, 1)) (ht : P.underlying t = some (.slice 5)) (base : Nat)
    (v : Value) (p : List Nat) (hs : a.eval s = v) (hown : Own w base v p) (A : Option Addr) (c n : Nat) (q : List Nat) (hx : a.eval x = .slice A n c) (hn : n = q.length) (hr : C8 w A q.length q)
    (hbytes : p.length + q.length ≤ 140737488355328) (hbase : base ≤ w.heap.size)
    (h : ∀ v' w', Own w' base v' (p ++ q) → w.grownBy w' v.ownBlock → (v'.ownBlock = v.ownBlock ∨ v'.ownBlock = some w.heap.size) → wpList P ops Q rest (a.put o.dst v') w') : wpList P ops Q (o :: rest) a w :=
  wpList_wanted hgd fun _ hK => by
    subst hn
    obtain ⟨v', w', hrun, h2, h3, h4⟩ := run_append_ (P := P) w base t o.type hinfo ht v p hown A c q hr hbytes hbase
    unfold Oper.wp execOp
    simp only [ho, resolve, invoke, builtin, Sem.run_bind, Sem.run_pure, Result.andThen_ok, List.map_toArray, List.map_cons, List.map_nil, hs, hx, hrun]
    exact hK _ _ (h v' w' h2 h3 h4)
theorem wplw_load (hgd : Region.wanted o (yielded ops a.tmps) = true) (ty : TypeId) (x : Operand) (ho : o.op = .load ty x) (g off : Nat) (hx : a.eval x = .pointer (some ⟨g, off, none⟩)) (t : TypeId) (pre mid post : List Value)
    (hB : Blk w g t (pre ++ mid ++ post).toArray) (hoff : pre.length = off) (d : TypeDesc) (hu : P.underlying ty = some d) (hd : d.isRow = true) (hi : (P.info? ty).map (·.size) = some mid.length)
    (h : wpList P ops Q rest (a.put o.dst (.agg mid.toArray)) w) : wpList P ops Q (o :: rest) a w :=
  wpList_wanted hgd fun _ hK => wp_load_mid ty x ho g off hx mid d (hoff ▸ range_of_blk hB) hu hd hi (hK _ _ h)
end
theorem sum_to (p D : List Nat) (hD : sumOf p = D) (A : Option Addr) (n c : Nat) (w : World) (hn : n = p.length) (hp : n ≤ 100000000000000) (hpc : n ≤ c) (hpa : All 256 p) (hC : C8 w A p.length p) (hT : TabsP w) :
    Calls Tryd.prog 14 #[.slice A n c] w fun e w' => e = .returned (.agg (D.map v8).toArray) ∧ Below w.heap.size w w' := by
  subst hD
  exact sum_c p A n c w hn hp hpc hpa hC hT.1 hT.2.1 hT.2.2
end Go.Proofs.YtfedlgcpgfofjaaDoor.Sha
