/-
  DigestPlays: four Hashes of the program beside four of the reference: what is kept.
-/
import Derived.Test.YtfedlgcpgfofjaaDoorDRef3
import Derived.Test.YtfedlgcpgfofjaaDoorDAlone
import Derived.Deep.DeepCutAuto
namespace Go.Proofs.YtfedlgcpgfofjaaDoor.Sha
open Go.RowKit Go.Proofs.YtfedlgcpgfofjaaDoorW.PrintWords Go.Proofs.YtfedlgcpgfofjaaDoor.PAll Go.Proofs.YtfedlgcpgfofjaaDoor.Plain
set_option linter.unusedVariables false
def upd {α : Type} (f : Nat → α) (i : Nat) (x : α) : Nat → α := fun k => if k = i then x else f k
theorem upd_self {α : Type} (f : Nat → α) (i : Nat) (x : α) : upd f i x i = x := if_pos rfl
theorem upd_ne {α : Type} (f : Nat → α) (i k : Nat) (x : α) (h : k ≠ i) : upd f i x k = f k := if_neg h
def ptr (g : Nat) : Value := .pointer (some ⟨g, 0, none⟩)
/-- Four pointers. -/
def hptr (g : Nat → Nat) : List Value := [ptr (g 0), ptr (g 1), ptr (g 2), ptr (g 3)]
def rall (R : Nat → List Nat) (P : Nat → Nat) (V : Nat → Value) : List Value := rh (R 0) (P 0) (V 0) ++ (rh (R 1) (P 1) (V 1) ++ (rh (R 2) (P 2) (V 2) ++ rh (R 3) (P 3) (V 3)))
def rpre (R : Nat → List Nat) (P : Nat → Nat) (V : Nat → Value) : Nat → List Value
  | 0 => []
  | 1 => rh (R 0) (P 0) (V 0)
  | 2 => rh (R 0) (P 0) (V 0) ++ rh (R 1) (P 1) (V 1)
  | _ => rh (R 0) (P 0) (V 0) ++ (rh (R 1) (P 1) (V 1) ++ rh (R 2) (P 2) (V 2))
def rpost (R : Nat → List Nat) (P : Nat → Nat) (V : Nat → Value) : Nat → List Value
  | 0 => rh (R 1) (P 1) (V 1) ++ (rh (R 2) (P 2) (V 2) ++ rh (R 3) (P 3) (V 3))
  | 1 => rh (R 2) (P 2) (V 2) ++ rh (R 3) (P 3) (V 3)
  | 2 => rh (R 3) (P 3) (V 3)
  | _ => []
theorem four_cases {P : Nat → Prop} {i : Nat} (h : i < 4) (h0 : P 0) (h1 : P 1) (h2 : P 2) (h3 : P 3) : P i := by
  rcases i with _ | _ | _ | _ | i
  · exact h0
  · exact h1
  · exact h2
  · exact h3
  · omega
theorem rall_mid (R : Nat → List Nat) (P : Nat → Nat) (V : Nat → Value) (i : Nat) (h : i < 4) : rall R P V = rpre R P V i ++ rh (R i) (P i) (V i) ++ rpost R P V i := by
  refine four_cases (P := fun i => rall R P V = rpre R P V i ++ rh (R i) (P i) (V i) ++ rpost R P V i) h ?_ ?_ ?_ ?_ <;> simp [rall, rpre, rpost]
theorem rall_upd (R : Nat → List Nat) (P : Nat → Nat) (V : Nat → Value) (i : Nat) (h : i < 4) (r : List Nat) (p : Nat) (v : Value) : rpre R P V i ++ rh r p v ++ rpost R P V i = rall (upd R i r) (upd P i p) (upd V i v) := by
  refine four_cases (P := fun i => rpre R P V i ++ rh r p v ++ rpost R P V i = rall (upd R i r) (upd P i p) (upd V i v)) h ?_ ?_ ?_ ?_ <;> simp [rall, rpre, rpost, upd]
theorem rpre_len (R : Nat → List Nat) (P : Nat → Nat) (V : Nat → Value) (hR : ∀ k, k < 4 → (R k).length = 8) (i : Nat) (h : i < 4) : (rpre R P V i).length = i * 10 := by
  refine four_cases (P := fun i => (rpre R P V i).length = i * 10) h ?_ ?_ ?_ ?_ <;> simp [rpre, rh, hR]
theorem rall_len (R : Nat → List Nat) (P : Nat → Nat) (V : Nat → Value) (hR : ∀ k, k < 4 → (R k).length = 8) : (rall R P V).length = 40 := by
  simp [rall, rh, hR]
theorem rall_one (R : Nat → List Nat) (P : Nat → Nat) (V : Nat → Value) (hV : ∀ k, k < 4 → (V k).oneCell' = true) : ∀ u ∈ rall R P V, u.oneCell' = true := by
  intro u hu
  unfold rall at hu
  simp only [List.mem_append] at hu
  rcases hu with h | h | h | h
  · exact rh_one _ _ _ (hV 0 (by omega)) u h
  · exact rh_one _ _ _ (hV 1 (by omega)) u h
  · exact rh_one _ _ _ (hV 2 (by omega)) u h
  · exact rh_one _ _ _ (hV 3 (by omega)) u h
theorem hptr_len (g : Nat → Nat) : (hptr g).length = 4 := rfl
theorem hptr_one (g : Nat → Nat) : ∀ u ∈ hptr g, u.oneCell' = true := by
  intro u hu
  simp only [hptr, List.mem_cons, List.not_mem_nil, or_false] at hu
  rcases hu with h | h | h | h <;> rw [h] <;> rfl
theorem hptr_at (g : Nat → Nat) (i : Nat) (h : i < 4) : (hptr g).toArray[i]? = some (.pointer (some ⟨g i, 0, none⟩)) := by
  refine four_cases (P := fun i => (hptr g).toArray[i]? = some (.pointer (some ⟨g i, 0, none⟩))) h ?_ ?_ ?_ ?_ <;> rfl
theorem hptr_set (g : Nat → Nat) (i x : Nat) (h : i < 4) : (hptr g).toArray.setIfInBounds i (.pointer (some ⟨x, 0, none⟩)) = (hptr (upd g i x)).toArray := by
  refine four_cases (P := fun i => (hptr g).toArray.setIfInBounds i (.pointer (some ⟨x, 0, none⟩)) = (hptr (upd g i x)).toArray) h ?_ ?_ ?_ ?_ <;> rfl
/-- What is kept of one pair. -/
structure Pair (w : World) (base M g : Nat) (r : List Nat) (past : Nat) (all : List Nat) (v : Value) : Prop where
  le : base ≤ g
  hash : HashAt w g r past all
  len : r.length = 8
  reg : All 4294967296 r
  mod : past % 64 = 0
  few : past ≤ 1152921504606846976
  most : all.length ≤ M
  byte : All 256 all
  own : Own w base v all
structure Four (w : World) (base M : Nat) (g : Nat → Nat) (R : Nat → List Nat) (P : Nat → Nat) (A : Nat → List Nat) (V : Nat → Value) : Prop where
  each : ∀ k, k < 4 → Pair w base M (g k) (R k) (P k) (A k) (V k)
  ne : ∀ j k, j < 4 → k < 4 → j ≠ k → g j ≠ g k
theorem Pair.keep {w w' : World} {base M g past : Nat} {r all : List Nat} {v : Value} (h : Pair w base M g r past all v) (hg : w'.heap[g]? = w.heap[g]?) (hv : ∀ k, v.ownBlock = some k → w'.heap[k]? = w.heap[k]?) : Pair w' base M g r past all v :=
  ⟨h.le, h.hash.keep hg, h.len, h.reg, h.mod, h.few, h.most, h.byte, own_move h.own hv⟩
theorem Pair.more {w : World} {base M M' g past : Nat} {r all : List Nat} {v : Value} (h : Pair w base M g r past all v) (hM : M ≤ M') : Pair w base M' g r past all v :=
  ⟨h.le, h.hash, h.len, h.reg, h.mod, h.few, Nat.le_trans h.most hM, h.byte, h.own⟩
theorem Pair.below {w w' : World} {base M g past : Nat} {r all : List Nat} {v : Value} (h : Pair w base M g r past all v) (hb : Below w.heap.size w w') : Pair w' base M g r past all v :=
  h.keep (hb.block g h.hash.lt) (fun k hk => hb.block k (own_lt h.own k hk))
theorem Pair.one {w : World} {base M g past : Nat} {r all : List Nat} {v : Value} (h : Pair w base M g r past all v) : v.oneCell' = true := by
  obtain ⟨A, c, e, _, _⟩ := h.own.arg
  rw [e]
  rfl
theorem Four.keep {w w' : World} {base M : Nat} {g : Nat → Nat} {R : Nat → List Nat} {P : Nat → Nat} {A : Nat → List Nat} {V : Nat → Value} (h : Four w base M g R P A V) (hb : Below w.heap.size w w') : Four w' base M g R P A V :=
  ⟨fun k hk => (h.each k hk).below hb, h.ne⟩
theorem Four.more {w : World} {base M M' : Nat} {g : Nat → Nat} {R : Nat → List Nat} {P : Nat → Nat} {A : Nat → List Nat} {V : Nat → Value} (h : Four w base M g R P A V) (hM : M ≤ M') : Four w base M' g R P A V :=
  ⟨fun k hk => (h.each k hk).more hM, h.ne⟩
theorem Four.lens {w : World} {base M : Nat} {g : Nat → Nat} {R : Nat → List Nat} {P : Nat → Nat} {A : Nat → List Nat} {V : Nat → Value} (h : Four w base M g R P A V) : ∀ k, k < 4 → (R k).length = 8 := fun k hk => (h.each k hk).len
theorem Four.ones {w : World} {base M : Nat} {g : Nat → Nat} {R : Nat → List Nat} {P : Nat → Nat} {A : Nat → List Nat} {V : Nat → Value} (h : Four w base M g R P A V) : ∀ k, k < 4 → (V k).oneCell' = true := fun k hk => (h.each k hk).one
/-- One pair is made anew, the others stay. -/
theorem Four.set_ {w w' : World} {base M M' : Nat} {g : Nat → Nat} {R : Nat → List Nat} {P : Nat → Nat} {A : Nat → List Nat} {V : Nat → Value} (h : Four w base M g R P A V) (hM : M ≤ M') (i : Nat) (hi : i < 4) {x : Nat} {r : List Nat} {p : Nat} {all : List Nat} {v : Value}
    (hn : Pair w' base M' x r p all v) (hk : ∀ k, k < 4 → k ≠ i → Pair w' base M' (g k) (R k) (P k) (A k) (V k)) (hx : ∀ k, k < 4 → k ≠ i → g k ≠ x) : Four w' base M' (upd g i x) (upd R i r) (upd P i p) (upd A i all) (upd V i v) := by
  refine ⟨fun k hk4 => ?_, fun j k hj hk4 hne => ?_⟩
  · by_cases e : k = i
    · subst e
      simp only [upd_self]
      exact hn
    · simp only [upd_ne _ _ _ _ e]
      exact hk k hk4 e
  · by_cases e : k = i
    · subst e
      rw [upd_self, upd_ne _ _ _ _ hne]
      exact hx j hj hne
    · by_cases e' : j = i
      · subst e'
        rw [upd_self, upd_ne _ _ _ _ e]
        exact fun hh => hx k hk4 e hh.symm
      · rw [upd_ne _ _ _ _ e, upd_ne _ _ _ _ e']
        exact h.ne j k hj hk4 hne
def z54 : List Value := [.pointer none, .pointer none, .pointer none, .pointer none]
def z60 : List Value := rzero ++ (rzero ++ (rzero ++ rzero))
theorem z60_len : z60.length = 40 := rfl
/-- The blocks that a step of play reads. -/
def Held3 (gO gH gR : Nat) (o h r : List Value) (w : World) : Prop := Blk w gO 64 o.toArray ∧ Blk w gH 54 h.toArray ∧ Blk w gR 60 r.toArray
theorem Held3.keep {gO gH gR : Nat} {o h r : List Value} {w w' : World} (H : Held3 gO gH gR o h r w) (hO : w'.heap[gO]? = w.heap[gO]?) (hH : w'.heap[gH]? = w.heap[gH]?) (hR : w'.heap[gR]? = w.heap[gR]?) : Held3 gO gH gR o h r w' :=
  ⟨hO.trans H.1, hH.trans H.2.1, hR.trans H.2.2⟩
theorem Held3.below {gO gH gR : Nat} {o h r : List Value} {w w' : World} (H : Held3 gO gH gR o h r w) (hb : Below w.heap.size w w') : Held3 gO gH gR o h r w' :=
  H.keep (hb.block _ H.1.lt) (hb.block _ H.2.1.lt) (hb.block _ H.2.2.lt)
theorem blk_range {w : World} {g t : Nat} {l : List Value} (h : Blk w g t l.toArray) : w.rangeAt g 0 l := by
  have h' : Blk w g t ([] ++ l ++ []).toArray := by rw [List.nil_append, List.append_nil]; exact h
  exact range_of_blk h'
theorem rall_range {w : World} {g i : Nat} {R : Nat → List Nat} {P : Nat → Nat} {V : Nat → Value} (h : Blk w g 60 (rall R P V).toArray) (hR : ∀ k, k < 4 → (R k).length = 8) (hi : i < 4) : w.rangeAt g (i * 10) (rh (R i) (P i) (V i)) := by
  rw [rall_mid R P V i hi] at h
  have h2 := range_of_blk h
  rwa [rpre_len R P V hR i hi] at h2
section
variable {P : Program} {w : World} {ops : Array Oper} {rest : List Oper} {o : Oper} {a : Act} {Q : Exit → Act → World → Prop}
theorem wpr_store {K : Act → World → Prop} (ty : TypeId) (x y : Operand) (ho : o.op = .store ty x y) (g off : Nat) (hx : a.eval x = .pointer (some ⟨g, off, none⟩)) (t : TypeId) (pre mid post new : List Value)
    (hy : a.eval y = .agg new.toArray) (hB : Blk w g t (pre ++ mid ++ post).toArray) (hoff : pre.length = off) (hn : new.length = mid.length) (hi : (P.info? ty).map (·.size) = some new.length)
    (h1 : ∀ v ∈ new, v.oneCell' = true) (h : ∀ w', Blk w' g t (pre ++ new ++ post).toArray → Only g w w' → K (a.put o.dst undef) w') : Oper.wp P o a w K Q := by
  unfold Oper.wp execOp
  simp only [ho, hx, hy, Instr.storeAt, Instr.sureAddr, Sem.run_bind, Sem.run_pure, Result.andThen_ok, run_storeVar_blk g off ty t pre mid post new hB hoff hn hi h1]
  exact h _ (setRow_heap w g _ _ t _ hB) (Only.setRow w g _)
end
end Go.Proofs.YtfedlgcpgfofjaaDoor.Sha
