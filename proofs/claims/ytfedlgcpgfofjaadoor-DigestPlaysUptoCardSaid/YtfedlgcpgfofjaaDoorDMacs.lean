/-
  Rows of rows that the call makes; DigestMacs: every Joined, Mac, Same.
-/
import Derived.Test.YtfedlgcpgfofjaaDoorDRMac
import Derived.Test.YtfedlgcpgfofjaaDoorPAllx7
namespace Go.Proofs.YtfedlgcpgfofjaaDoor.Sha
open Go.RowKit Go.Proofs.YtfedlgcpgfofjaaDoorW.PrintWords Go.Proofs.YtfedlgcpgfofjaaDoor.PAll Go.Proofs.YtfedlgcpgfofjaaDoor.Plain
set_option linter.unusedVariables false
theorem parts_le (ps : List (List Nat)) : ps.length + ps.flatten.length ≤ (joinOf ps).length := by
  induction ps with
  | nil => simp [joinOf]
  | cons p ps ih =>
    have e : joinOf (p :: ps) = (eight p.length ++ p) ++ joinOf ps := rfl
    rw [e, List.flatten_cons, List.length_append, List.length_append, List.length_append, eight_len, List.length_cons]
    omega
theorem u8_or (a b : Nat) (ha : a < 256) (hb : b < 256) : bits .or .u8 (a : Int) (b : Int) = ((a ||| b : Nat) : Int) := by
  have hx : a ||| b < 256 := Nat.or_lt_two_pow (n := 8) ha hb
  have e1 : ∀ x : Nat, x < 256 → (BitVec.ofInt 8 (x : Int)).toNat = x := fun x h => by simp; omega
  show IntKind.u8.wrap ((BitVec.ofInt 8 (a : Int) ||| BitVec.ofInt 8 (b : Int)).toNat : Int) = _
  rw [BitVec.toNat_or, e1 a ha, e1 b hb]
  show ((_ : Int) % 256) = _
  omega
theorem or_zero (a b : Nat) : a ||| b = 0 ↔ a = 0 ∧ b = 0 := by
  constructor
  · intro h
    have h1 : a ≤ a ||| b := Nat.left_le_or
    have h2 : b ≤ a ||| b := Nat.right_le_or
    omega
  · rintro ⟨rfl, rfl⟩
    rfl
theorem xor_zero (a b : Nat) : a ^^^ b = 0 ↔ a = b := by
  constructor
  · intro h
    have : a ^^^ b ^^^ b = 0 ^^^ b := by rw [h]
    rwa [Nat.xor_assoc, Nat.xor_self, Nat.xor_zero, Nat.zero_xor] at this
  · rintro rfl
    exact Nat.xor_self a
theorem rd_toI_ (p : List Nat) (i : Nat) : rd (toI p) (i : Int) = ((p.getD i 0 : Nat) : Int) := by unfold rd; rw [Int.toNat_natCast, toI_getD]
theorem drop_get (p : List Nat) (i : Nat) (h : i < p.length) : p.drop i = p.getD i 0 :: p.drop (i + 1) := by
  rw [List.drop_eq_getElem_cons h, List.getD_eq_getElem?_getD, List.getElem?_eq_getElem h]
  rfl
theorem Same_loop (p q : List Nat) (hl : p.length = q.length) (hp : All 256 p) (hq : All 256 q) (hb : p.length ≤ 1000000000000) : ∀ (m i acc : Nat), i + m = p.length → acc < 256 →
    Ev (fun k => digest_Same.l0 k (toI p) (toI q) (acc : Int) (p.length : Int) (i : Int)) (decide (acc = 0 ∧ p.drop i = q.drop i)) := by
  intro m
  induction m with
  | zero =>
    intro i acc hi ha
    refine Ev.step (f := fun _ => some ((acc : Int) == 0)) (fun k => ?_) (Ev.eq (Ev.now _) ?_)
    · simp only [digest_Same.l0]
      rw [if_neg (by omega)]
    · rw [List.drop_eq_nil_of_le (by omega), List.drop_eq_nil_of_le (by omega)]
      by_cases h : acc = 0
      · subst h; rfl
      · rw [decide_eq_false (fun hh => h hh.1)]
        simp
        omega
  | succ m ih =>
    intro i acc hi ha
    have h1 : i < p.length := by omega
    have h2 : i < q.length := by omega
    have x1 := hp.getD (by decide) i
    have x2 := hq.getD (by decide) i
    have x3 : p.getD i 0 ^^^ q.getD i 0 < 256 := Nat.xor_lt_two_pow (n := 8) x1 x2
    have x4 : acc ||| (p.getD i 0 ^^^ q.getD i 0) < 256 := Nat.or_lt_two_pow (n := 8) ha x3
    have c1 : (i : Int) < (p.length : Int) := by omega
    have c2 : (0 : Int) ≤ (i : Int) := by omega
    have c3 : (i : Int) < ((toI p).length : Int) := by rw [toI_len]; omega
    have c4 : (i : Int) < ((toI q).length : Int) := by rw [toI_len]; omega
    have c5 : wrap64 ((i : Int) + 1) = ((i + 1 : Nat) : Int) := by rw [w64 (by omega) (by omega)]; rfl
    refine Ev.eq (Ev.step (fun k => ?_) (ih (i + 1) (acc ||| (p.getD i 0 ^^^ q.getD i 0)) (by omega) x4)) ?_
    · simp only [digest_Same.l0]
      rw [if_pos c1, if_pos c2, if_pos c3, if_pos c4, rd_toI_, rd_toI_, u8_xor _ _ x1 x2, u8_or _ _ ha x3, c5]
    · rw [drop_get p i h1, drop_get q i h2]
      simp only [or_zero, xor_zero, List.cons.injEq, and_assoc]
theorem Same_any (p q : List Nat) (A B : Option Addr) (n m c d : Nat) (w : World) (hn : n = p.length) (hm : m = q.length) (hb : n ≤ 1000000000000) (hc : n ≤ c) (hd : m ≤ d) (hpa : All 256 p) (hqa : All 256 q) (hp : C8 w A p.length p) (hq : C8 w B q.length q) :
    Calls Tryd.prog 37 #[.slice A n c, .slice B m d] w fun e w' => e = .returned (.bool (decide (p = q))) ∧ Below w.heap.size w w' := by
  subst hn hm
  have hev : Ev (fun k => digest_Same.f k (toI p) (toI q)) (decide (p = q)) := by
    unfold digest_Same.f
    by_cases hl : p.length = q.length
    · refine Ev.pos (by rw [toI_len, toI_len]; omega) ?_
      rw [toI_len]
      refine Ev.eq (Same_loop p q hl hpa hqa hb p.length 0 0 (by omega) (by decide)) ?_
      simp
    · refine Ev.neg (by rw [toI_len, toI_len]; omega) (Ev.eq (Ev.now _) ?_)
      rw [decide_eq_false (fun e => hl (by rw [e]))]
  obtain ⟨k, hk⟩ := Ev.rounds hev
  have h := digest_Same.calls k A c (toI p) B d (toI q) _ w (by rw [toI_len]; exact hp) (by rw [toI_len]; exact hc) (by rw [toI_len]; exact hq) (by rw [toI_len]; exact hd) hk
  rw [toI_len, toI_len] at h
  exact h.mono fun x w' ⟨h1, h2⟩ => ⟨h1, by first | exact h2 | exact h2.below⟩
theorem str_inj (p q : List Nat) (hp : All 256 p) (hq : All 256 q) : ((strOfNums (toI p)).toList == (strOfNums (toI q)).toList) = decide (p = q) := by
  rw [toList_beq]
  have hf : ∀ l : List Nat, All 256 l → (strOfNums (toI l)).data.toList.map UInt8.toNat = l := fun l hl => by
    unfold strOfNums toI
    simp only [List.map_map]
    conv => rhs; rw [← List.map_id l]
    refine List.map_congr_left fun x hx => ?_
    have := hl x hx
    simp
    omega
  by_cases h : p = q
  · subst h; simp
  · rw [decide_eq_false h, decide_eq_false fun e => h (by rw [← hf p hp, e, hf q hq])]
theorem eqs_any (p q : List Nat) (A B : Option Addr) (n m c d : Nat) (w : World) (hn : n = p.length) (hm : m = q.length) (hc : n ≤ c) (hd : m ≤ d) (hpa : All 256 p) (hqa : All 256 q) (hp : C8 w A p.length p) (hq : C8 w B q.length q) :
    Calls Tryd.prog 32 #[.slice A n c, .slice B m d] w fun e w' => e = .returned (.bool (decide (p = q))) ∧ Below w.heap.size w w' := by
  subst hn hm
  have h := wicketlaw02_same.calls A c (toI p) B d (toI q) _ w (by rw [toI_len]; exact hp) (by rw [toI_len]; exact hc) (by rw [toI_len]; exact hq) (by rw [toI_len]; exact hd) rfl
  rw [toI_len, toI_len, str_inj p q hpa hqa] at h
  exact h.mono fun x w' ⟨h, hd⟩ => ⟨h, hd.below⟩
/-- A row of slices of the call's own. -/
def OwnP (w : World) (base : Nat) (v : Value) (vs : List Value) : Prop := w.ownsRow base 22 1 v vs.length vs
/-- Each shows bytes in a row of the call's own. -/
def Els (w : World) (base : Nat) (vs : List Value) (ps : List (List Nat)) : Prop := vs.length = ps.length ∧ ∀ (j : Nat) (v : Value) (p : List Nat), vs[j]? = some v → ps[j]? = some p → Own w base v p
theorem info_slice : (Tryd.prog.info? 22).map (fun i => (i.zero, i.size, i.bytes)) = some (some (.slice none 0 0), 1, 24) := by kernel_rfl
theorem OwnP.nil (w : World) (base : Nat) : OwnP w base (.slice none 0 0) [] := ⟨by simp, .inl ⟨rfl, rfl⟩⟩
theorem OwnP.below {w w' : World} {base : Nat} {v : Value} {vs : List Value} (h : OwnP w base v vs) (hb : Below w.heap.size w w') : OwnP w' base v vs := own_move h (fun k hk => hb.block k (own_lt h k hk))
theorem OwnP.alloc {w : World} {base : Nat} {v : Value} {vs : List Value} (h : OwnP w base v vs) (o : Obj) : OwnP (w.alloc o) base v vs := own_move h (fun k hk => Below.heap_alloc w o k (own_lt h k hk))
theorem OwnP.far {w w' : World} {base : Nat} {u v : Value} {vs : List Value} (h : OwnP w base u vs) (G : w.grownBy w' v.ownBlock) (ha : Apart u v) : OwnP w' base u vs := own_move h (fun k hk => G.block k (own_lt h k hk) (fun e => ha k hk e.symm))
theorem OwnP.lt {w : World} {base : Nat} {v : Value} {vs : List Value} (h : OwnP w base v vs) : ∀ k, v.ownBlock = some k → base ≤ k ∧ k < w.heap.size := fun k hk => ⟨own_base h k hk, own_lt h k hk⟩
theorem Apart.growP {w : World} {base : Nat} {u v v' : Value} {vs : List Value} {n : Nat} (ha : Apart u v) (h : OwnP w base u vs) (hn : w.heap.size ≤ n) (hv : v'.ownBlock = v.ownBlock ∨ v'.ownBlock = some n) : Apart u v' := fun k hk e => by
  rcases hv with hv | hv
  · exact ha k hk (hv ▸ e)
  · rw [hv] at e
    injection e with e
    have := own_lt h k hk
    omega
theorem Own.apartP {w : World} {base b : Nat} {u v : Value} {p : List Nat} {vs : List Value} (h : Own w base u p) (hv : OwnP w b v vs) : Apart u v := fun k hk e => by
  obtain ⟨c1, h1⟩ := own_typed h k hk
  obtain ⟨c2, h2⟩ := own_typed hv k e
  rw [h1] at h2
  injection h2 with h2
  injection h2 with _ h2
  exact absurd h2 (by decide)
theorem Els.below {w w' : World} {base : Nat} {vs : List Value} {ps : List (List Nat)} (h : Els w base vs ps) (hb : Below w.heap.size w w') : Els w' base vs ps := ⟨h.1, fun j v p hv hp => (h.2 j v p hv hp).below hb⟩
theorem Els.far {w w' : World} {base b : Nat} {v : Value} {vs us : List Value} {ps : List (List Nat)} (h : Els w base vs ps) (hv : OwnP w b v us) (G : w.grownBy w' v.ownBlock) : Els w' base vs ps :=
  ⟨h.1, fun j u p hu hp => (h.2 j u p hu hp).far G ((h.2 j u p hu hp).apartP hv)⟩
theorem Els.push {w : World} {base : Nat} {v : Value} {vs : List Value} {ps : List (List Nat)} {p : List Nat} (h : Els w base vs ps) (hv : Own w base v p) : Els w base (vs ++ [v]) (ps ++ [p]) := by
  refine ⟨by rw [List.length_append, List.length_append, h.1]; rfl, fun j u q hu hq => ?_⟩
  have hl := h.1
  rcases Nat.lt_or_ge j vs.length with hj | hj
  · rw [List.getElem?_append_left hj] at hu
    rw [List.getElem?_append_left (by omega)] at hq
    exact h.2 j u q hu hq
  · rw [List.getElem?_append_right hj] at hu
    rw [List.getElem?_append_right (by omega)] at hq
    have e : j - vs.length = j - ps.length := by omega
    rw [e] at hu
    cases hx : j - ps.length with
    | zero =>
      rw [hx] at hu hq
      obtain rfl := Option.some.inj hu
      obtain rfl := Option.some.inj hq
      exact hv
    | succ k => rw [hx] at hu; simp at hu
theorem Els.nil (w : World) (base : Nat) : Els w base [] [] := ⟨rfl, fun j v p h => by simp at h⟩
theorem Own.weak {w : World} {base base' : Nat} {v : Value} {p : List Nat} (h : Own w base v p) (hb : base' ≤ base) : Own w base' v p := own_weaken h hb
theorem Own.take {w : World} {base n c : Nat} {A : Option Addr} {p : List Nat} (h : Own w base (.slice A n c) p) (m : Nat) (hm : m ≤ n) : Own w base (.slice A m c) (p.take m) := by
  obtain ⟨hn, hc, _⟩ := h.c8
  obtain ⟨h1, h2⟩ := h
  have hl : (p.take m).length = m := by rw [List.length_take]; omega
  refine ⟨by rw [List.length_map, Nat.mul_one], ?_⟩
  rcases h2 with ⟨e, h0⟩ | ⟨g, cap, cur, e, hg, hh, a1, a2, a3, a4⟩
  · injection e with e1 e2 e3
    have : m = 0 := by omega
    subst this e1 e3
    exact .inl ⟨rfl, hl⟩
  · injection e with e1 e2 e3
    subst e1 e3
    rw [hl]
    refine .inr ⟨g, c, cur, rfl, hg, hh, by omega, a2, a3, ?_⟩
    rw [Nat.mul_one] at a4 ⊢
    rw [List.map_take, ← a4, List.take_take, Nat.min_eq_left (by omega)]
theorem OwnP.form_ {w : World} {base : Nat} {v : Value} {vs : List Value} (h : OwnP w base v vs) : ∃ A c, v = .slice A vs.length c ∧ vs.length ≤ c := by
  rcases h.2 with ⟨e, h0⟩ | ⟨g, cap, cur, e, hg, hh, a1, a2, a3, a4⟩
  · exact ⟨none, 0, by rw [e, h0], by omega⟩
  · exact ⟨_, cap, e, a1⟩
theorem CP.of_rows {w : World} {base n c : Nat} {A : Option Addr} {vs : List Value} {ps : List (List Nat)} (h : OwnP w base (.slice A n c) vs) (he : Els w base vs ps) : n = ps.length ∧ CP w A n ps := by
  obtain ⟨h1, h2⟩ := h
  have hl := he.1
  rcases h2 with ⟨e, h0⟩ | ⟨g, cap, cur, e, hg, hh, a1, a2, a3, a4⟩
  · injection e with e1 e2 e3
    subst e1 e2 e3
    have : ps = [] := List.eq_nil_of_length_eq_zero (by omega)
    subst this
    exact ⟨rfl, ⟨rfl, by omega, fun h => absurd h (by omega)⟩⟩
  · injection e with e1 e2 e3
    subst e1 e2 e3
    refine ⟨by omega, ⟨by rw [List.length_map]; omega, by unfold maxLen at a2; omega, fun _ => ⟨_, rfl, fun j q hj => ?_⟩⟩⟩
    rw [List.getElem?_map] at hj
    obtain ⟨p, hp, rfl⟩ := Option.map_eq_some_iff.1 hj
    have hlt := (List.getElem?_eq_some_iff.1 hp).1
    obtain ⟨v, hvj⟩ : ∃ v, vs[j]? = some v := ⟨_, List.getElem?_eq_getElem (by omega)⟩
    obtain ⟨A', c', rfl, hle, hC⟩ := (he.2 j v p hvj hp).arg
    refine ⟨[.slice A' p.length c'], rfl, ⟨A', c', by rw [toI_len], by rw [toI_len]; exact hle, by rw [toI_len]; exact hC⟩, fun i u hu => ?_⟩
    rcases i with _ | i
    · obtain rfl := Option.some.inj hu
      rw [Addr.add_mid, show 0 + (j * (Kd.slice 5 (Kd.int IntKind.u8)).sz + 0) = j by show 0 + (j * 1 + 0) = j; omega]
      have hB : Blk w g 22 cur := hh
      rw [hB.cell j]
      rw [Nat.mul_one] at a4
      have hvj' := hvj
      rw [← a4, List.getElem?_take_of_lt (by omega)] at hvj'
      rw [← Array.getElem?_toList]
      exact hvj'
    · simp at hu
section
variable {P : Program} {w : World} {ops : Array Oper} {rest : List Oper} {o : Oper} {a : Act} {Q : Exit → Act → World → Prop}
theorem wpl_appendP (hgd : o.guard = none) (s x : Operand) (t : TypeId) (ho : o.op = .call { callee := .builtin .append, args := #[s, x], argTypes := #[t, t] })
    (hinfo : (P.info? 22).map (fun i => (i.zero, i.size, i.bytes)) = some (some (.slice none 0 0), 1, 24)) (ht : P.underlying t = some (.slice 22)) (base : Nat)
    (v : Value) (vs : List Value) (hs : a.eval s = v) (hown : OwnP w base v vs) (ad : Addr) (c : Nat) (u : Value) (hx : a.eval x = .slice (some ad) 1 c) (hu : u.oneCell' = true) (hr : w.cell? ad = some u)
    (hbytes : vs.length ≤ 1000000000) (hbase : base ≤ w.heap.size)
    (h : ∀ v' w', OwnP w' base v' (vs ++ [u]) → w.grownBy w' v.ownBlock → (v'.ownBlock = v.ownBlock ∨ v'.ownBlock = some w.heap.size) → wpList P ops Q rest (a.put o.dst v') w') : wpList P ops Q (o :: rest) a w :=
  wpList_plain hgd fun _ hK => by
    obtain ⟨i, hi, hz0, hz1, hz2⟩ := info_parts hinfo
    obtain ⟨v', w', hrun, h2, h3, _, h5⟩ := run_append_own_at (P := P) w base t o.type 22 i (.slice none 0 0) 1 24 ht hi hz0 hz1 hz2 rfl (by omega) v vs.length vs hown ad 1 c [u] rfl
      (fun j x hj => by
        rcases j with _ | j
        · obtain rfl := Option.some.inj hj
          exact hr
        · simp at hj) (fun x hx => by rw [List.mem_singleton.1 hx]; exact hu) (by unfold maxLen; omega) (by omega) hbase
    unfold Oper.wp execOp
    simp only [ho, resolve, invoke, builtin, Sem.run_bind, Sem.run_pure, Result.andThen_ok, List.map_toArray, List.map_cons, List.map_nil, hs, hx, hrun]
    exact hK _ _ (h v' w' (by unfold OwnP; rw [List.length_append]; exact h2) h3 h5)
theorem wpr_if {E : Prop} {K : Act → World → Prop} (hgd : Region.wanted o (yielded ops a.tmps) = true) (h : Oper.wp P o a w K Q) : if Region.wanted o (yielded ops a.tmps) = true then Oper.wp P o a w K Q else E := by
  rw [if_pos hgd]
  exact h
theorem wpr_append {K : Act → World → Prop} (s x : Operand) (t : TypeId) (ho : o.op = .call { callee := .builtin .append, args := #[s, x], argTypes := #[t, t] })
    (hinfo : (P.info? 5).map (fun i => (i.zero, i.size, i.bytes)) = some (some (.int .u8 0), 1, 1)) (ht : P.underlying t = some (.slice 5)) (base : Nat)
    (v : Value) (p : List Nat) (hs : a.eval s = v) (hown : Own w base v p) (A : Option Addr) (c n : Nat) (q : List Nat) (hx : a.eval x = .slice A n c) (hn : n = q.length) (hr : C8 w A q.length q)
    (hbytes : p.length + q.length ≤ 140737488355328) (hbase : base ≤ w.heap.size)
    (h : ∀ v' w', Own w' base v' (p ++ q) → w.grownBy w' v.ownBlock → (v'.ownBlock = v.ownBlock ∨ v'.ownBlock = some w.heap.size) → K (a.put o.dst v') w') : Oper.wp P o a w K Q := by
  subst hn
  obtain ⟨v', w', hrun, h2, h3, h4⟩ := run_append_ (P := P) w base t o.type hinfo ht v p hown A c q hr hbytes hbase
  unfold Oper.wp execOp
  simp only [ho, resolve, invoke, builtin, Sem.run_bind, Sem.run_pure, Result.andThen_ok, List.map_toArray, List.map_cons, List.map_nil, hs, hx, hrun]
  exact h v' w' h2 h3 h4
end
end Go.Proofs.YtfedlgcpgfofjaaDoor.Sha
