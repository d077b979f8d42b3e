/-
  (*Hash).Write: what the call does, walked.
-/
import Derived.Test.YtfedlgcpgfofjaaDoorDSha2
import Derived.Deep.RegionWith
import Derived.Deep.RegionLaw
namespace Go.Proofs.YtfedlgcpgfofjaaDoor.Sha
open Go.RowKit Go.Proofs.YtfedlgcpgfofjaaDoorW.PrintWords
set_option linter.unusedVariables false
/-- The cells of the program's Hash. -/
def hcells (R rest : List Nat) (tk : Nat) : List Value := R.map v32 ++ rest.map v8 ++ [.int .u64 (tk : Int)]
/-- Block g is a Hash: what came in since a register that stands for a multiple of 64 bytes. -/
def HashAt (w : World) (g : Nat) (r : List Nat) (past : Nat) (all : List Nat) : Prop :=
  ∃ rest : List Nat, Blk w g 76 (hcells (regOf r all) rest (past + all.length)).toArray ∧ rest.length = 64 ∧ All 256 rest ∧ rest.take (all.length % 64) = tailOf all
theorem turn8 (r0 r1 r2 r3 r4 r5 r6 r7 : Nat) (p : List Nat) (b o c : Nat) (w : World) (hra : All 4294967296 [r0, r1, r2, r3, r4, r5, r6, r7]) (hp : p.length = 64) (hpa : All 256 p)
    (hbs : Bs w b o p) (hb : b < w.heap.size) (ht : Tab1 w) (h1 : 1 < w.heap.size) :
    Calls Tryd.prog 47 #[.agg #[.int .u32 r0, .int .u32 r1, .int .u32 r2, .int .u32 r3, .int .u32 r4, .int .u32 r5, .int .u32 r6, .int .u32 r7], .slice (some ⟨b, o, none⟩) 64 c] w
      fun e w' => ∃ t0 t1 t2 t3 t4 t5 t6 t7 : Nat, e = .returned (.agg #[.int .u32 t0, .int .u32 t1, .int .u32 t2, .int .u32 t3, .int .u32 t4, .int .u32 t5, .int .u32 t6, .int .u32 t7]) ∧ Hid (turn [r0, r1, r2, r3, r4, r5, r6, r7] p = [t0, t1, t2, t3, t4, t5, t6, t7]) ∧ Below w.heap.size w w' := by
  refine (turn_any [r0, r1, r2, r3, r4, r5, r6, r7] p b o c w rfl hra hp hpa hbs hb ht h1).mono fun e w' ⟨he, hb⟩ => ?_
  obtain ⟨t0, t1, t2, t3, t4, t5, t6, t7, ht⟩ := eight_of _ (turn_len [r0, r1, r2, r3, r4, r5, r6, r7] p)
  rw [ht] at he
  exact ⟨t0, t1, t2, t3, t4, t5, t6, t7, he, ht, hb⟩
theorem bcell {w w1 : World} (hb : Below w.heap.size w w1) : (∀ b o, b < w.heap.size → w1.cell? ⟨b, o, none⟩ = w.cell? ⟨b, o, none⟩) ∧ (∀ b o, b < w.heap.size → w1.frozen? ⟨b, o, none⟩ = w.frozen? ⟨b, o, none⟩) :=
  ⟨fun b o h => hb.cell (p := ⟨b, o, none⟩) h, fun b o h => hb.frozen (p := ⟨b, o, none⟩) h⟩
theorem set_eight_pre (a0 a1 a2 a3 a4 a5 a6 a7 : Value) (l : List Value) (v0 v1 v2 v3 v4 v5 v6 v7 : Value) :
    ((((((((([a0, a1, a2, a3, a4, a5, a6, a7] ++ l).toArray.setIfInBounds 0 v0).setIfInBounds 1 v1).setIfInBounds 2 v2).setIfInBounds 3 v3).setIfInBounds 4 v4).setIfInBounds 5 v5).setIfInBounds 6 v6).setIfInBounds 7 v7) = ([v0, v1, v2, v3, v4, v5, v6, v7] ++ l).toArray := by
  simp only [List.cons_append, List.nil_append, List.setIfInBounds_toArray, List.set_cons_zero, List.set_cons_succ]
theorem Blk.sets8 {w : World} {g t : Nat} {cs : Array Value} (h : Blk w g t cs) (v0 v1 v2 v3 v4 v5 v6 v7 : Value) :
    Blk ((((((((w.setCell ⟨g, 0, none⟩ v0).setCell ⟨g, 1, none⟩ v1).setCell ⟨g, 2, none⟩ v2).setCell ⟨g, 3, none⟩ v3).setCell ⟨g, 4, none⟩ v4).setCell ⟨g, 5, none⟩ v5).setCell ⟨g, 6, none⟩ v6).setCell ⟨g, 7, none⟩ v7) g t ((((((((cs.setIfInBounds 0 v0).setIfInBounds 1 v1).setIfInBounds 2 v2).setIfInBounds 3 v3).setIfInBounds 4 v4).setIfInBounds 5 v5).setIfInBounds 6 v6).setIfInBounds 7 v7) :=
  ((((((((h.set_ 0 v0).set_ 1 v1).set_ 2 v2).set_ 3 v3).set_ 4 v4).set_ 5 v5).set_ 6 v6).set_ 7 v7)
theorem Blk.eight_of {w : World} {g t : Nat} {a0 a1 a2 a3 a4 a5 a6 a7 : Value} {l : List Value} (h : Blk w g t ([a0, a1, a2, a3, a4, a5, a6, a7] ++ l).toArray) (v0 v1 v2 v3 v4 v5 v6 v7 : Value) :
    Blk ((((((((w.setCell ⟨g, 0, none⟩ v0).setCell ⟨g, 1, none⟩ v1).setCell ⟨g, 2, none⟩ v2).setCell ⟨g, 3, none⟩ v3).setCell ⟨g, 4, none⟩ v4).setCell ⟨g, 5, none⟩ v5).setCell ⟨g, 6, none⟩ v6).setCell ⟨g, 7, none⟩ v7) g t ([v0, v1, v2, v3, v4, v5, v6, v7] ++ l).toArray := by
  have h8 := Blk.sets8 h v0 v1 v2 v3 v4 v5 v6 v7
  rw [set_eight_pre] at h8
  exact h8
theorem only_set {a w : World} {g : Nat} (h : a.grownBy w (some g)) (i : Nat) (u : Value) : a.grownBy (w.setCell ⟨g, i, none⟩ u) (some g) :=
  ⟨h.os, h.tape, h.output, by simpa [World.setCell] using h.size, fun k hk hne => (Below.heap_setCell w _ u k (fun e => hne (by rw [e]))).trans (h.block k hk hne)⟩
theorem grown_eight {a w : World} {g : Nat} (h : a.grownBy w (some g)) (v0 v1 v2 v3 v4 v5 v6 v7 : Value) :
    a.grownBy ((((((((w.setCell ⟨g, 0, none⟩ v0).setCell ⟨g, 1, none⟩ v1).setCell ⟨g, 2, none⟩ v2).setCell ⟨g, 3, none⟩ v3).setCell ⟨g, 4, none⟩ v4).setCell ⟨g, 5, none⟩ v5).setCell ⟨g, 6, none⟩ v6).setCell ⟨g, 7, none⟩ v7) (some g) :=
  only_set (only_set (only_set (only_set (only_set (only_set (only_set (only_set h 0 v0) 1 v1) 2 v2) 3 v3) 4 v4) 5 v5) 6 v6) 7 v7
theorem only_below {a w w' : World} {g : Nat} (h : a.grownBy w (some g)) (hb : Below w.heap.size w w') : a.grownBy w' (some g) :=
  ⟨hb.os.trans h.os, hb.tape.trans h.tape, hb.output.trans h.output, Nat.le_trans h.size hb.size, fun k hk hne => (hb.block k (Nat.lt_of_lt_of_le hk h.size)).trans (h.block k hk hne)⟩
theorem only_only {a w w' : World} {g : Nat} (h : a.grownBy w (some g)) (O : Only g w w') : a.grownBy w' (some g) :=
  ⟨O.os.trans h.os, O.tape.trans h.tape, O.output.trans h.output, by rw [O.size]; exact h.size, fun k hk hne => (O.block k (fun e => hne (by rw [e]))).trans (h.block k hk hne)⟩
theorem only_drewN {a w : World} {row : Option Nat} (h : a.grownBy w row) (n : Nat) : a.grownBy (w.drewN n) row := ⟨h.os, h.tape, h.output, h.size, h.block⟩
theorem Bs.grown {w w' : World} {b o g : Nat} {p : List Nat} (h : Bs w b o p) (hb : w.grownBy w' (some g)) (hlt : b < w.heap.size) (hne : b ≠ g) : Bs w' b o p :=
  fun j hj => (World.cell?_of_block (a := ⟨b, o + j, none⟩) (hb.block b hlt (fun e => hne (by injection e)))).trans (h j hj)
theorem Tab1.grown {w w' : World} {g : Nat} (h : Tab1 w) (hb : w.grownBy w' (some g)) (h1 : 1 < w.heap.size) (hne : 1 ≠ g) : Tab1 w' :=
  fun j hj => (World.cell?_of_block (a := ⟨1, j, none⟩) (hb.block 1 h1 (fun e => hne (by injection e)))).trans (h j hj)
/-- What is left of a slice: k bytes are gone. -/
def Rest (v : Value) (b o k n : Nat) : Prop := ∃ A c, v = .slice A (n - k) c ∧ (k < n → A = some ⟨b, o + k, none⟩) ∧ n - k ≤ c
theorem Rest.cut {A : Option Addr} {b o k n c m : Nat} (h : k < n → A = some ⟨b, o + k, none⟩) (hc : n - k ≤ c) (hm : m ≤ n - k) (h0 : 0 < m) :
    Rest (.slice (if c = m then A else A.map (·.add m)) (n - k - m) (c - m)) b o (k + m) n := by
  refine ⟨_, _, by rw [Nat.sub_sub], fun hk => ?_, by omega⟩
  rw [if_neg (by omega), h (by omega)]
  simp [Addr.add_mid, Nat.add_assoc]
theorem hcells_set72 (T rest : List Nat) (tk tk' : Nat) (hT : T.length = 8) (hr : rest.length = 64) (x : Int) (hx : x = (tk' : Int)) : (hcells T rest tk).toArray.setIfInBounds 72 (.int .u64 x) = (hcells T rest tk').toArray := by
  subst hx
  unfold hcells
  rw [List.setIfInBounds_toArray, List.set_append_right _ _ (by simp [hT, hr])]
  simp [hT, hr]
theorem blk_turned {w1 : World} {g : Nat} {r0 r1 r2 r3 r4 r5 r6 r7 t0 t1 t2 t3 t4 t5 t6 t7 tk : Nat} {rest : List Nat} (h : Blk w1 g 76 (hcells [r0, r1, r2, r3, r4, r5, r6, r7] rest tk).toArray) :
    Blk ((((((((w1.setCell ⟨g, 0, none⟩ (.int .u32 (t0 : Int))).setCell ⟨g, 1, none⟩ (.int .u32 (t1 : Int))).setCell ⟨g, 2, none⟩ (.int .u32 (t2 : Int))).setCell ⟨g, 3, none⟩ (.int .u32 (t3 : Int))).setCell ⟨g, 4, none⟩ (.int .u32 (t4 : Int))).setCell ⟨g, 5, none⟩ (.int .u32 (t5 : Int))).setCell ⟨g, 6, none⟩ (.int .u32 (t6 : Int))).setCell ⟨g, 7, none⟩ (.int .u32 (t7 : Int))) g 76 (hcells [t0, t1, t2, t3, t4, t5, t6, t7] rest tk).toArray := by
  have e : ∀ a b c d e f g k : Nat, hcells [a, b, c, d, e, f, g, k] rest tk = [.int .u32 (a : Int), .int .u32 (b : Int), .int .u32 (c : Int), .int .u32 (d : Int), .int .u32 (e : Int), .int .u32 (f : Int), .int .u32 (g : Int), .int .u32 (k : Int)] ++ (rest.map v8 ++ [.int .u64 (tk : Int)]) := fun a b c d e f g k => by
    unfold hcells
    rw [List.append_assoc]
    rfl
  rw [e] at h ⊢
  exact Blk.eight_of h _ _ _ _ _ _ _ _
theorem below_of_drew {w w' : World} (h : Below w.drew.heap.size w.drew w') : Below w.heap.size w w' := ⟨h.os, h.tape, h.output, h.size, h.block⟩
theorem take_more (p : List Nat) (k m : Nat) : p.take (k + m) = p.take k ++ (p.drop k).take m := List.take_add
theorem hcells_cut (R rest : List Nat) (tk a m : Nat) : hcells R rest tk = (R.map v32 ++ (rest.take a).map v8) ++ ((rest.drop a).take m).map v8 ++ ((rest.drop (a + m)).map v8 ++ [.int .u64 (tk : Int)]) := by
  unfold hcells
  rw [List.append_assoc, List.append_assoc, List.append_assoc]
  congr 1
  rw [← List.append_assoc ((List.take m (List.drop a rest)).map v8), ← List.append_assoc ((List.take a rest).map v8), ← List.map_append, ← List.map_append, ← List.drop_drop, List.take_append_drop, List.take_append_drop]
theorem hcells_72 (R rest : List Nat) (tk : Nat) (hR : R.length = 8) (hr : rest.length = 64) : (hcells R rest tk).toArray[72]? = some (.int .u64 (tk : Int)) := by
  rw [hcells, List.getElem?_toArray, List.getElem?_append_right (by simp [hR, hr])]
  simp [hR, hr]
theorem hcells_low (r0 r1 r2 r3 r4 r5 r6 r7 : Nat) (rest : List Nat) (tk i : Nat) (v : Value) (h : ([r0, r1, r2, r3, r4, r5, r6, r7].map v32)[i]? = some v) : (hcells [r0, r1, r2, r3, r4, r5, r6, r7] rest tk).toArray[i]? = some v := by
  have hi := (List.getElem?_eq_some_iff.1 h).1
  rw [hcells, List.getElem?_toArray, List.append_assoc, List.getElem?_append_left hi]
  exact h
theorem bs_hcells {w : World} {g : Nat} {R rest : List Nat} {tk : Nat} (hR : R.length = 8) (hB : Blk w g 76 (hcells R rest tk).toArray) : Bs w g 8 rest := by
  intro j hj
  rw [hB.cell, hcells, List.getElem?_toArray, List.append_assoc, List.getElem?_append_right (by rw [List.length_map, hR]; omega), List.length_map, hR, Nat.add_sub_cancel_left, List.getElem?_append_left (by rw [List.length_map]; exact hj), List.getElem?_map, List.getElem?_eq_getElem hj,
    List.getD_eq_getElem?_getD, List.getElem?_eq_getElem hj]
  rfl
theorem hcells_put (R rest q : List Nat) (tk a m : Nat) : (R.map v32 ++ (rest.take a).map v8) ++ q.map v8 ++ ((rest.drop (a + m)).map v8 ++ [.int .u64 (tk : Int)]) = hcells R (rest.take a ++ q ++ rest.drop (a + m)) tk := by
  unfold hcells
  simp only [List.map_append, List.append_assoc]
section
variable {P : Program} {w : World} {ops : Array Oper} {rest : List Oper} {o : Oper} {a : Act} {Q : Exit → Act → World → Prop}
theorem wpl_copy_n (hgd : o.guard = none) (d s : Operand) (dT sT : TypeId) (ho : o.op = .call { callee := .builtin .copy, args := #[d, s], argTypes := #[dT, sT] }) (elem : TypeId)
    (hu : P.underlying dT = some (.slice elem)) (hsz : (P.info? elem).map (·.size) = some 1) (dp sp : Option Addr) (dLen dCap sLen sCap : Nat) (hd : a.eval d = .slice dp dLen dCap) (hs : a.eval s = .slice sp sLen sCap)
    (g off : Nat) (t : TypeId) (pre mid post new : List Value) (hB : Blk w g t (pre ++ mid ++ post).toArray) (hoff : pre.length = off) (hn : new.length = mid.length) (hmin : new.length = Nat.min sLen dLen)
    (hpos : 0 < new.length → dp = some ⟨g, off, none⟩ ∧ ∃ ad, sp = some ad ∧ ∀ j v, new[j]? = some v → w.cell? (ad.add j) = some v) (h1 : ∀ v ∈ new, v.oneCell' = true) (n : Nat) (hln : new.length = n)
    (h : ∀ w', Blk w' g t (pre ++ new ++ post).toArray → Only g w w' → wpList P ops Q rest (a.put o.dst (.int .i64 (n : Int))) w') : wpList P ops Q (o :: rest) a w := by
  subst hln
  exact wpl_copy hgd d s dT sT ho elem hu hsz dp sp dLen dCap sLen sCap hd hs g off t pre mid post new hB hoff hn hmin hpos h1 h
end
theorem bs_cells {w : World} {b o : Nat} {p : List Nat} (h : Bs w b o p) : ∀ j v, (p.map v8)[j]? = some v → w.cell? ((Addr.mk b o none).add j) = some v := by
  intro j v hv
  rw [List.getElem?_map] at hv
  cases e : p[j]? with
  | none => rw [e] at hv; cases hv
  | some x =>
    rw [e] at hv
    injection hv with hv
    subst hv
    have hj := (List.getElem?_eq_some_iff.1 e).1
    rw [Addr.add_mid, h j hj, List.getD_eq_getElem?_getD, e]
    rfl
theorem rest_put_len (rest q : List Nat) (a m : Nat) (hr : rest.length = 64) (hq : q.length = m) (h : a + m ≤ 64) : (rest.take a ++ q ++ rest.drop (a + m)).length = 64 := by
  rw [List.length_append, List.length_append, List.length_take, List.length_drop]; omega
theorem rest_put_all {rest q : List Nat} (hr : All 256 rest) (hq : All 256 q) (a m : Nat) : All 256 (rest.take a ++ q ++ rest.drop (a + m)) := ((hr.take a).app hq).app (hr.drop _)
theorem rest_put_take (rest q tl : List Nat) (a m : Nat) (hr : rest.length = 64) (hq : q.length = m) (h : a + m ≤ 64) (ht : rest.take a = tl) : (rest.take a ++ q ++ rest.drop (a + m)).take (a + m) = tl ++ q := by
  rw [List.take_left' (by rw [List.length_append, List.length_take]; omega), ht]
theorem hash_less {w2 : World} {g past at_ mn tk : Nat} {r cur q rest : List Nat} (hat : at_ = cur.length % 64) (htk : tk = past + cur.length) (hq : q.length = mn) (hn : at_ + mn < 64) (hr : r.length = 8)
    (hrl : rest.length = 64) (hra : All 256 rest) (hqa : All 256 q) (htl : rest.take at_ = tailOf cur) (hB : Blk w2 g 76 (hcells (regOf r cur) (rest.take at_ ++ q ++ rest.drop (at_ + mn)) tk).toArray) :
    HashAt (w2.setCell ⟨g, 72, none⟩ (.int .u64 ((tk : Int) + (mn : Int)))) g r past (cur ++ q) := by
  have hl : (cur ++ q).length = cur.length + mn := by rw [List.length_append, hq]
  have h1 := rest_put_len rest q at_ mn hrl hq (by omega)
  have h := hB.set_ 72 (.int .u64 ((tk : Int) + (mn : Int)))
  rw [hcells_set72 _ _ _ (past + (cur ++ q).length) (regOf_len hr cur) h1 _ (by rw [hl, htk]; omega)] at h
  refine ⟨_, ?_, h1, rest_put_all hra hqa at_ mn, ?_⟩
  · rw [regOf_less r cur q (by omega)]
    exact h
  · rw [hl, show (cur.length + mn) % 64 = at_ + mn by omega, rest_put_take rest q _ at_ mn hrl hq (by omega) htl, tailOf_less cur q (by omega)]
theorem Rest.mk_ {A : Option Addr} {b o k n c x : Nat} (hx : x = n - k) (h : k < n → A = some ⟨b, o + k, none⟩) (hc : n - k ≤ c) : Rest (.slice A x c) b o k n := ⟨A, c, by rw [hx], h, hc⟩
set_option maxRecDepth 100000 in
set_option maxHeartbeats 800000 in
theorem write_any (g past : Nat) (r all p : List Nat) (b o c : Nat) (w : World) (hr : r.length = 8) (hra : All 4294967296 r) (hpast : past % 64 = 0) (hmax : past + all.length + p.length ≤ 2305843009213693952)
    (hH : HashAt w g r past all) (hall : All 256 all) (hp0 : 0 < p.length) (hpc : p.length ≤ c) (hpa : All 256 p) (hbs : Bs w b o p) (hb : b < w.heap.size) (hbg : b ≠ g) (ht : Tab1 w) (h1 : 1 < w.heap.size) (h1g : 1 ≠ g) :
    Calls Tryd.prog 18 #[.pointer (some ⟨g, 0, none⟩), .slice (some ⟨b, o, none⟩) p.length c] w fun e w' => e = .returned (.tuple #[]) ∧ HashAt w' g r past (all ++ p) ∧ w.grownBy w' (some g) := by
  obtain ⟨n, hn⟩ : ∃ n, n = p.length := ⟨_, rfl⟩
  rw [← hn] at hmax hp0 hpc
  rw [← hn]
  have HN := Lib.hid hn; have HR := Lib.hid hr; have HP := Lib.hid hpast; have HBS := Lib.hid hbs; have HT := Lib.hid ht; have HH := Lib.hid hH
  clear hn hr hpast hbs ht hH
  go_enter Tryd.func18, Tryd.ntmps18
  go_wp2
  go_loopw [1] (fun v wr => ∃ k : Nat, k ≤ n ∧ Rest v b o k n ∧ HashAt wr g r past (all ++ p.take k) ∧ w.grownBy wr (some g)) (fun v _ => slen v)
  case atStart => exact ⟨0, by omega, ⟨_, _, rfl, fun _ => rfl, hpc⟩, by rw [List.take_zero, List.append_nil]; exact HH.out, World.grownBy.refl w _⟩
  case round =>
    obtain ⟨k, hk, ⟨A, cc, rfl, hA, hcc⟩, ⟨rest, hB, hrl, hrest, htl⟩, hG⟩ := hrel
    obtain ⟨cur, hcur⟩ : ∃ cur, cur = all ++ p.take k := ⟨_, rfl⟩
    have hcl : cur.length = all.length + k := by rw [hcur, List.length_append, List.length_take, ← HN.out]; omega
    have hca : All 256 cur := by rw [hcur]; exact hall.app (hpa.take k)
    rw [← hcur] at hB htl
    obtain ⟨m, hm⟩ : ∃ m, m = n - k := ⟨_, rfl⟩
    obtain ⟨at_, hat⟩ : ∃ at_, at_ = cur.length % 64 := ⟨_, rfl⟩
    obtain ⟨tk, htk⟩ : ∃ tk, tk = past + cur.length := ⟨_, rfl⟩
    rw [← hm] at hcc
    rw [← hm]
    rw [← hat] at htl
    rw [← htk] at hB
    have hat2 : tk % 64 = at_ := by rw [htk, hat]; have := HP.out; omega
    have hat64 : at_ < 64 := by omega
    have htk62 : tk ≤ 2305843009213693952 := by omega
    have HC := Lib.hid hcur; have HCL := Lib.hid hcl; have HM := Lib.hid hm; have HAT := Lib.hid hat; have HTK := Lib.hid htk
    obtain ⟨R, hR⟩ : ∃ R, R = regOf r cur := ⟨_, rfl⟩
    have hRl : R.length = 8 := by rw [hR]; exact regOf_len HR.out cur
    have hRa : All 4294967296 R := by rw [hR]; exact regOf_all hra cur
    rw [← hR] at hB
    have HRR := Lib.hid hR
    clear hR
    obtain ⟨r0, r1, r2, r3, r4, r5, r6, r7, hR8⟩ := eight_of R hRl
    subst hR8
    clear hRl
    have gc : ∀ i, i < 8 → ∃ x : Nat, x = [r0, r1, r2, r3, r4, r5, r6, r7].getD i 0 ∧ wr.cell? ⟨g, i, none⟩ = some (.int .u32 (x : Int)) := fun i hi => ⟨_, rfl, by
      rw [hB.cell, hcells, List.getElem?_toArray, List.append_assoc, List.getElem?_append_left (by simpa using hi), List.getElem?_map, List.getElem?_eq_getElem (by simpa using hi), List.getD_eq_getElem?_getD, List.getElem?_eq_getElem (by simpa using hi)]
      rfl⟩
    have c0 : wr.cell? ⟨g, 0, none⟩ = some (.int .u32 (r0 : Int)) := by obtain ⟨x, rfl, h⟩ := gc 0 (by omega); exact h
    have c1 : wr.cell? ⟨g, 1, none⟩ = some (.int .u32 (r1 : Int)) := by obtain ⟨x, rfl, h⟩ := gc 1 (by omega); exact h
    have c2 : wr.cell? ⟨g, 2, none⟩ = some (.int .u32 (r2 : Int)) := by obtain ⟨x, rfl, h⟩ := gc 2 (by omega); exact h
    have c3 : wr.cell? ⟨g, 3, none⟩ = some (.int .u32 (r3 : Int)) := by obtain ⟨x, rfl, h⟩ := gc 3 (by omega); exact h
    have c4 : wr.cell? ⟨g, 4, none⟩ = some (.int .u32 (r4 : Int)) := by obtain ⟨x, rfl, h⟩ := gc 4 (by omega); exact h
    have c5 : wr.cell? ⟨g, 5, none⟩ = some (.int .u32 (r5 : Int)) := by obtain ⟨x, rfl, h⟩ := gc 5 (by omega); exact h
    have c6 : wr.cell? ⟨g, 6, none⟩ = some (.int .u32 (r6 : Int)) := by obtain ⟨x, rfl, h⟩ := gc 6 (by omega); exact h
    have c7 : wr.cell? ⟨g, 7, none⟩ = some (.int .u32 (r7 : Int)) := by obtain ⟨x, rfl, h⟩ := gc 7 (by omega); exact h
    have c72 : wr.cell? ⟨g, 72, none⟩ = some (.int .u64 (tk : Int)) := by
      rw [hB.cell, hcells, List.getElem?_toArray, List.getElem?_append_right (by simp [hrl])]
      simp [hrl]
    have f0 := hB.frozen 0; have f1 := hB.frozen 1; have f2 := hB.frozen 2; have f3 := hB.frozen 3
    have f4 := hB.frozen 4; have f5 := hB.frozen 5; have f6 := hB.frozen 6; have f7 := hB.frozen 7; have f72 := hB.frozen 72
    have hglt := hB.lt
    have HB := Lib.hid hB; have HRL := Lib.hid hrl; have HTL := Lib.hid htl; have HAT2 := Lib.hid hat2
    clear gc hB hrl htl hcur hcl hm hat htk hat2
    have e1 : ((tk : Int) % 64) = (at_ : Int) := by have := HAT2.out; omega
    have i0 : (0 : Int) ≤ (tk : Int) := by omega
    have i1 : (tk : Int) ≤ 2305843009213693952 := by omega
    have i2 : (0 : Int) ≤ (at_ : Int) := by omega
    have i3 : (at_ : Int) < 64 := by omega
    by_cases hm0 : 0 < m
    · have hAe : A = some ⟨b, o + k, none⟩ := hA (by have := HM.out; omega)
      subst hAe
      clear hA
      have im : (0 : Int) < (m : Int) := by omega
      by_cases ha : at_ = 0 ∧ 64 ≤ m
      · (
          obtain ⟨ha0, hm64⟩ := ha
          have t1 : ((at_ : Int) == 0) = true := by simp [ha0]
          have t2 : (m : Int) ≥ 64 := by omega
          have t3 : decide ((64 : Int) ≤ (m : Int)) = true := decide_eq_true t2
          have hcc2 : cc = 64 ∨ 64 < cc := by omega
          rcases hcc2 with rfl | hcc2
          · obtain rfl : m = 64 := by omega
            clear im t2 t3 hm0
            go_wp2
            have hq64 : ((p.drop k).take 64).length = 64 := by rw [List.length_take, List.length_drop, ← HN.out]; have := HM.out; omega
            have hqb : Bs wr b (o + k) ((p.drop k).take 64) := (HBS.out.grown hG hb hbg).sub k 64 (by rw [← HN.out]; have := HM.out; omega)
            have hqa : All 256 ((p.drop k).take 64) := (hpa.drop k).take 64
            obtain ⟨q, hq⟩ : ∃ q, q = (p.drop k).take 64 := ⟨_, rfl⟩
            rw [← hq] at hq64 hqb hqa
            have HQ := Lib.hid hq; have HQ64 := Lib.hid hq64; have HQB := Lib.hid hqb
            clear hq hq64 hqb
            have hcall : Calls Tryd.prog 47 #[.agg #[.int .u32 r0, .int .u32 r1, .int .u32 r2, .int .u32 r3, .int .u32 r4, .int .u32 r5, .int .u32 r6, .int .u32 r7], .slice (some ⟨b, o + k, none⟩) 64 64] wr.drew _ := turn8 r0 r1 r2 r3 r4 r5 r6 r7 q b (o + k) 64 wr.drew hRa HQ64.out hqa HQB.out (Nat.lt_of_lt_of_le hb hG.size) (show Tab1 wr from HT.out.grown hG h1 h1g) (Nat.lt_of_lt_of_le h1 hG.size)
            go_region_with (go_at_call 47; (with_reducible refine hcall.mono ?_); rintro e w1 ⟨t0, t1, t2, t3, t4, t5, t6, t7, rfl, hT, hb1⟩; replace hb1 := below_of_drew hb1; obtain ⟨hc1, hf1⟩ := bcell hb1; have k0 := (hc1 g 0 hglt).trans c0; have l0 := (hf1 g 0 hglt).trans f0; have k1 := (hc1 g 1 hglt).trans c1; have l1 := (hf1 g 1 hglt).trans f1; have k2 := (hc1 g 2 hglt).trans c2; have l2 := (hf1 g 2 hglt).trans f2; have k3 := (hc1 g 3 hglt).trans c3; have l3 := (hf1 g 3 hglt).trans f3; have k4 := (hc1 g 4 hglt).trans c4; have l4 := (hf1 g 4 hglt).trans f4; have k5 := (hc1 g 5 hglt).trans c5; have l5 := (hf1 g 5 hglt).trans f5; have k6 := (hc1 g 6 hglt).trans c6; have l6 := (hf1 g 6 hglt).trans f6; have k7 := (hc1 g 7 hglt).trans c7; have l7 := (hf1 g 7 hglt).trans f7; have k72 := (hc1 g 72 hglt).trans c72; have l72 := (hf1 g 72 hglt).trans f72; clear hc1 hf1)
            all_goals go_wp2
            all_goals
              refine ⟨⟨k + 64, ?_, Rest.mk_ (by have := HM.out; omega) (fun hlt => by first | (exfalso; have := HM.out; omega) | rw [Nat.add_assoc]) (by have := HM.out; omega), ?_, ?_⟩, ?_⟩
            all_goals first
              | (have := HM.out; omega)
              | exact only_set (grown_eight (only_below hG hb1) _ _ _ _ _ _ _ _) _ _
              | (simp only [slen]; omega)
              | (rw [take_more, ← List.append_assoc, ← HC.out, ← HQ.out]
                 have hl : (cur ++ q).length = cur.length + 64 := by rw [List.length_append, HQ64.out]
                 have ha1 : cur.length % 64 = 0 := by rw [← HAT.out]; exact ha0
                 have hB1 := (blk_turned (t0 := t0) (t1 := t1) (t2 := t2) (t3 := t3) (t4 := t4) (t5 := t5) (t6 := t6) (t7 := t7) (Blk.below HB.out hb1 hglt)).set_ 72 (.int .u64 ((tk : Int) + 64))
                 rw [hcells_set72 _ _ _ (past + (cur ++ q).length) rfl HRL.out _ (by rw [hl, HTK.out]; omega)] at hB1
                 refine ⟨rest, ?_, HRL.out, hrest, ?_⟩
                 · rw [regOf_full r cur q (by rw [ha1, HQ64.out]), tailOf_zero cur ha1, List.nil_append, ← HRR.out, hT.out]
                   exact hB1
                 · rw [tailOf_full cur q (by rw [ha1, HQ64.out]), hl, show (cur.length + 64) % 64 = 0 by omega, List.take_zero])
          · have hcc3 : (64 : Int) < (cc : Int) := by omega
            have hcc4 : ¬ (cc = 64) := by omega
            go_wp2
            have hq64 : ((p.drop k).take 64).length = 64 := by rw [List.length_take, List.length_drop, ← HN.out]; have := HM.out; omega
            have hqb : Bs wr b (o + k) ((p.drop k).take 64) := (HBS.out.grown hG hb hbg).sub k 64 (by rw [← HN.out]; have := HM.out; omega)
            have hqa : All 256 ((p.drop k).take 64) := (hpa.drop k).take 64
            obtain ⟨q, hq⟩ : ∃ q, q = (p.drop k).take 64 := ⟨_, rfl⟩
            rw [← hq] at hq64 hqb hqa
            have HQ := Lib.hid hq; have HQ64 := Lib.hid hq64; have HQB := Lib.hid hqb
            clear hq hq64 hqb
            have hcall : Calls Tryd.prog 47 #[.agg #[.int .u32 r0, .int .u32 r1, .int .u32 r2, .int .u32 r3, .int .u32 r4, .int .u32 r5, .int .u32 r6, .int .u32 r7], .slice (some ⟨b, o + k, none⟩) 64 64] wr.drew _ := turn8 r0 r1 r2 r3 r4 r5 r6 r7 q b (o + k) 64 wr.drew hRa HQ64.out hqa HQB.out (Nat.lt_of_lt_of_le hb hG.size) (show Tab1 wr from HT.out.grown hG h1 h1g) (Nat.lt_of_lt_of_le h1 hG.size)
            go_region_with (go_at_call 47; (with_reducible refine hcall.mono ?_); rintro e w1 ⟨t0, t1, t2, t3, t4, t5, t6, t7, rfl, hT, hb1⟩; replace hb1 := below_of_drew hb1; obtain ⟨hc1, hf1⟩ := bcell hb1; have k0 := (hc1 g 0 hglt).trans c0; have l0 := (hf1 g 0 hglt).trans f0; have k1 := (hc1 g 1 hglt).trans c1; have l1 := (hf1 g 1 hglt).trans f1; have k2 := (hc1 g 2 hglt).trans c2; have l2 := (hf1 g 2 hglt).trans f2; have k3 := (hc1 g 3 hglt).trans c3; have l3 := (hf1 g 3 hglt).trans f3; have k4 := (hc1 g 4 hglt).trans c4; have l4 := (hf1 g 4 hglt).trans f4; have k5 := (hc1 g 5 hglt).trans c5; have l5 := (hf1 g 5 hglt).trans f5; have k6 := (hc1 g 6 hglt).trans c6; have l6 := (hf1 g 6 hglt).trans f6; have k7 := (hc1 g 7 hglt).trans c7; have l7 := (hf1 g 7 hglt).trans f7; have k72 := (hc1 g 72 hglt).trans c72; have l72 := (hf1 g 72 hglt).trans f72; clear hc1 hf1)
            all_goals go_wp2
            all_goals
              refine ⟨⟨k + 64, ?_, Rest.mk_ (by have := HM.out; omega) (fun hlt => by first | (exfalso; have := HM.out; omega) | rw [Nat.add_assoc]) (by have := HM.out; omega), ?_, ?_⟩, ?_⟩
            all_goals first
              | (have := HM.out; omega)
              | exact only_set (grown_eight (only_below hG hb1) _ _ _ _ _ _ _ _) _ _
              | (simp only [slen]; omega)
              | (rw [take_more, ← List.append_assoc, ← HC.out, ← HQ.out]
                 have hl : (cur ++ q).length = cur.length + 64 := by rw [List.length_append, HQ64.out]
                 have ha1 : cur.length % 64 = 0 := by rw [← HAT.out]; exact ha0
                 have hB1 := (blk_turned (t0 := t0) (t1 := t1) (t2 := t2) (t3 := t3) (t4 := t4) (t5 := t5) (t6 := t6) (t7 := t7) (Blk.below HB.out hb1 hglt)).set_ 72 (.int .u64 ((tk : Int) + 64))
                 rw [hcells_set72 _ _ _ (past + (cur ++ q).length) rfl HRL.out _ (by rw [hl, HTK.out]; omega)] at hB1
                 refine ⟨rest, ?_, HRL.out, hrest, ?_⟩
                 · rw [regOf_full r cur q (by rw [ha1, HQ64.out]), tailOf_zero cur ha1, List.nil_append, ← HRR.out, hT.out]
                   exact hB1
                 · rw [tailOf_full cur q (by rw [ha1, HQ64.out]), hl, show (cur.length + 64) % 64 = 0 by omega, List.take_zero]))
      · obtain ⟨mn, hmn⟩ : ∃ mn, mn = min m (64 - at_) := ⟨_, rfl⟩
        have hmn1 : mn ≤ m := by omega
        have hmn2 : at_ + mn ≤ 64 := by omega
        have hmn3 : 0 < mn := by omega
        have hcut := hcells_cut [r0, r1, r2, r3, r4, r5, r6, r7] rest tk at_ mn
        have hB2 : Hid (Blk wr g 76 (([r0, r1, r2, r3, r4, r5, r6, r7].map v32 ++ (rest.take at_).map v8) ++ ((rest.drop at_).take mn).map v8 ++ ((rest.drop (at_ + mn)).map v8 ++ [Value.int .u64 (tk : Int)])).toArray) := by
          have h := HB.out
          rw [hcut] at h
          exact h
        obtain ⟨q, hq⟩ : ∃ q, q = (p.drop k).take mn := ⟨_, rfl⟩
        have hql : q.length = mn := by rw [hq, List.length_take, List.length_drop, ← HN.out]; have := HM.out; omega
        have hqb : Bs wr b (o + k) q := by rw [hq]; exact (HBS.out.grown hG hb hbg).sub k mn (by rw [← HN.out]; have := HM.out; omega)
        have hqa : All 256 q := by rw [hq]; exact (hpa.drop k).take mn
        have HQ := Lib.hid hq; have HQL := Lib.hid hql; have HQB := Lib.hid hqb; have HMN := Lib.hid hmn
        have i4 : (0 : Int) ≤ (mn : Int) := by omega
        have i5 : (mn : Int) ≤ (m : Int) := by omega
        have i6 : (mn : Int) ≤ (cc : Int) := by omega
        have i7 : (at_ : Int) + (mn : Int) ≤ 64 := by omega
        have i8 : (at_ : Int) ≤ 64 := by omega
        have n64 : ¬ (64 = at_) := by omega
        have n65 : ¬ (at_ = 64) := by omega
        have hz : (at_ = 0 ∧ m < 64) ∨ at_ ≠ 0 := by omega
        clear hcut hq hql hqb hmn ha
        by_cases hfull : at_ + mn = 64
        · (
          have tf : ((at_ : Int) + (mn : Int) == 64) = true := by simp; omega
          have hz0 : at_ ≠ 0 := by omega
          have t1 : ((at_ : Int) == 0) = false := by simp; omega
          rcases (show mn = cc ∨ cc ≠ mn by omega) with rfl | hcm
          all_goals (
            go_wp2_with (
              refine wpl_copy_n rfl _ _ _ _ rfl 5 Tryd.underlying22 (by kernel_rfl) _ _ _ _ _ _ rfl rfl g (8 + at_) 76 _ _ _ (q.map v8) hB2.out
                (by simp [HRL.out]; omega) (by simp [HQL.out, HRL.out]; omega) (by rw [List.length_map, HQL.out]; exact HMN.out)
                (fun _ => ⟨rfl, _, rfl, bs_cells HQB.out⟩) (v8_one q) mn (by rw [List.length_map, HQL.out]) ?_
              intro w2 B2 O2
              rw [hcells_put] at B2
              have k72 : w2.cell? ⟨g, 72, none⟩ = some (.int .u64 (tk : Int)) := by
                rw [B2.cell]
                exact hcells_72 _ _ _ rfl (by simp [HRL.out, HQL.out]; omega)
              have l72 := B2.frozen 72
              have k0 : w2.cell? ⟨g, 0, none⟩ = some (.int .u32 (r0 : Int)) := by rw [B2.cell]; exact hcells_low _ _ _ _ _ _ _ _ _ _ 0 _ rfl
              have l0 := B2.frozen 0
              have k1 : w2.cell? ⟨g, 1, none⟩ = some (.int .u32 (r1 : Int)) := by rw [B2.cell]; exact hcells_low _ _ _ _ _ _ _ _ _ _ 1 _ rfl
              have l1 := B2.frozen 1
              have k2 : w2.cell? ⟨g, 2, none⟩ = some (.int .u32 (r2 : Int)) := by rw [B2.cell]; exact hcells_low _ _ _ _ _ _ _ _ _ _ 2 _ rfl
              have l2 := B2.frozen 2
              have k3 : w2.cell? ⟨g, 3, none⟩ = some (.int .u32 (r3 : Int)) := by rw [B2.cell]; exact hcells_low _ _ _ _ _ _ _ _ _ _ 3 _ rfl
              have l3 := B2.frozen 3
              have k4 : w2.cell? ⟨g, 4, none⟩ = some (.int .u32 (r4 : Int)) := by rw [B2.cell]; exact hcells_low _ _ _ _ _ _ _ _ _ _ 4 _ rfl
              have l4 := B2.frozen 4
              have k5 : w2.cell? ⟨g, 5, none⟩ = some (.int .u32 (r5 : Int)) := by rw [B2.cell]; exact hcells_low _ _ _ _ _ _ _ _ _ _ 5 _ rfl
              have l5 := B2.frozen 5
              have k6 : w2.cell? ⟨g, 6, none⟩ = some (.int .u32 (r6 : Int)) := by rw [B2.cell]; exact hcells_low _ _ _ _ _ _ _ _ _ _ 6 _ rfl
              have l6 := B2.frozen 6
              have k7 : w2.cell? ⟨g, 7, none⟩ = some (.int .u32 (r7 : Int)) := by rw [B2.cell]; exact hcells_low _ _ _ _ _ _ _ _ _ _ 7 _ rfl
              have l7 := B2.frozen 7)

            obtain ⟨RR, hRR⟩ : ∃ RR, RR = rest.take at_ ++ q ++ rest.drop (at_ + mn) := ⟨_, rfl⟩
            have hRRl : RR.length = 64 := by rw [hRR]; exact rest_put_len rest q at_ mn HRL.out HQL.out hmn2
            have hRRa : All 256 RR := by rw [hRR]; exact rest_put_all hrest hqa at_ mn
            have hRRt : RR = tailOf cur ++ q := by
              have h := rest_put_take rest q (tailOf cur) at_ mn HRL.out HQL.out hmn2 HTL.out
              rw [← hRR, hfull, List.take_of_length_le (by omega)] at h
              exact h
            rw [← hRR] at B2
            have B3 := B2.set_ 72 (.int .u64 ((tk : Int) + (mn : Int)))
            rw [hcells_set72 _ _ _ (tk + mn) rfl hRRl _ (by omega)] at B3
            have hbsR : Bs (w2.setCell ⟨g, 72, none⟩ (.int .u64 ((tk : Int) + (mn : Int)))) g 8 RR := bs_hcells rfl B3
            have HRRl := Lib.hid hRRl; have HRRt := Lib.hid hRRt; have HB3 := Lib.hid B3; have HBR := Lib.hid hbsR
            have hG3 := only_set (only_only hG O2) 72 (.int .u64 ((tk : Int) + (mn : Int)))
            have hcall : Calls Tryd.prog 47 #[.agg #[.int .u32 r0, .int .u32 r1, .int .u32 r2, .int .u32 r3, .int .u32 r4, .int .u32 r5, .int .u32 r6, .int .u32 r7], .slice (some ⟨g, 8, none⟩) 64 64] (w2.setCell ⟨g, 72, none⟩ (.int .u64 ((tk : Int) + (mn : Int)))).drew _ :=
              turn8 r0 r1 r2 r3 r4 r5 r6 r7 RR g 8 64 (w2.setCell ⟨g, 72, none⟩ (.int .u64 ((tk : Int) + (mn : Int)))).drew hRa HRRl.out hRRa HBR.out B3.lt (show Tab1 (w2.setCell ⟨g, 72, none⟩ (.int .u64 ((tk : Int) + (mn : Int)))) from HT.out.grown hG3 h1 h1g) (Nat.lt_of_lt_of_le h1 hG3.size)
            clear hRR hRRl hRRt B3 hbsR
            have hg3 := HB3.out.lt
            obtain ⟨w3, hw3⟩ : ∃ w3, w3 = w2.setCell ⟨g, 72, none⟩ (.int .u64 ((tk : Int) + (mn : Int))) := ⟨_, rfl⟩
            have HW3 := Lib.hid hw3
            have x0 : w3.cell? ⟨g, 0, none⟩ = some (.int .u32 (r0 : Int)) := by rw [hw3, HB3.out.cell]; exact hcells_low _ _ _ _ _ _ _ _ _ _ 0 _ rfl
            have y0 : w3.frozen? ⟨g, 0, none⟩ = false := by rw [hw3]; exact HB3.out.frozen 0
            have x1 : w3.cell? ⟨g, 1, none⟩ = some (.int .u32 (r1 : Int)) := by rw [hw3, HB3.out.cell]; exact hcells_low _ _ _ _ _ _ _ _ _ _ 1 _ rfl
            have y1 : w3.frozen? ⟨g, 1, none⟩ = false := by rw [hw3]; exact HB3.out.frozen 1
            have x2 : w3.cell? ⟨g, 2, none⟩ = some (.int .u32 (r2 : Int)) := by rw [hw3, HB3.out.cell]; exact hcells_low _ _ _ _ _ _ _ _ _ _ 2 _ rfl
            have y2 : w3.frozen? ⟨g, 2, none⟩ = false := by rw [hw3]; exact HB3.out.frozen 2
            have x3 : w3.cell? ⟨g, 3, none⟩ = some (.int .u32 (r3 : Int)) := by rw [hw3, HB3.out.cell]; exact hcells_low _ _ _ _ _ _ _ _ _ _ 3 _ rfl
            have y3 : w3.frozen? ⟨g, 3, none⟩ = false := by rw [hw3]; exact HB3.out.frozen 3
            have x4 : w3.cell? ⟨g, 4, none⟩ = some (.int .u32 (r4 : Int)) := by rw [hw3, HB3.out.cell]; exact hcells_low _ _ _ _ _ _ _ _ _ _ 4 _ rfl
            have y4 : w3.frozen? ⟨g, 4, none⟩ = false := by rw [hw3]; exact HB3.out.frozen 4
            have x5 : w3.cell? ⟨g, 5, none⟩ = some (.int .u32 (r5 : Int)) := by rw [hw3, HB3.out.cell]; exact hcells_low _ _ _ _ _ _ _ _ _ _ 5 _ rfl
            have y5 : w3.frozen? ⟨g, 5, none⟩ = false := by rw [hw3]; exact HB3.out.frozen 5
            have x6 : w3.cell? ⟨g, 6, none⟩ = some (.int .u32 (r6 : Int)) := by rw [hw3, HB3.out.cell]; exact hcells_low _ _ _ _ _ _ _ _ _ _ 6 _ rfl
            have y6 : w3.frozen? ⟨g, 6, none⟩ = false := by rw [hw3]; exact HB3.out.frozen 6
            have x7 : w3.cell? ⟨g, 7, none⟩ = some (.int .u32 (r7 : Int)) := by rw [hw3, HB3.out.cell]; exact hcells_low _ _ _ _ _ _ _ _ _ _ 7 _ rfl
            have y7 : w3.frozen? ⟨g, 7, none⟩ = false := by rw [hw3]; exact HB3.out.frozen 7
            have HB3' : Hid (Blk w3 g 76 (hcells [r0, r1, r2, r3, r4, r5, r6, r7] RR (tk + mn)).toArray) := by rw [hw3]; exact HB3.out
            rw [← hw3] at hcall hg3 hG3 ⊢
            clear hw3 HB3 k0 k1 k2 k3 k4 k5 k6 k7 k72 l0 l1 l2 l3 l4 l5 l6 l7 l72 c0 c1 c2 c3 c4 c5 c6 c7 c72 f0 f1 f2 f3 f4 f5 f6 f7 f72 HBR HW3
            go_region_with (go_at_call 47; (with_reducible refine hcall.mono ?_); rintro e w1 ⟨t0, t1, t2, t3, t4, t5, t6, t7, rfl, hT, hb1⟩; replace hb1 := below_of_drew hb1; obtain ⟨hc1, hf1⟩ := bcell hb1; have k0 := (hc1 g 0 hg3).trans x0; have l0 := (hf1 g 0 hg3).trans y0; have k1 := (hc1 g 1 hg3).trans x1; have l1 := (hf1 g 1 hg3).trans y1; have k2 := (hc1 g 2 hg3).trans x2; have l2 := (hf1 g 2 hg3).trans y2; have k3 := (hc1 g 3 hg3).trans x3; have l3 := (hf1 g 3 hg3).trans y3; have k4 := (hc1 g 4 hg3).trans x4; have l4 := (hf1 g 4 hg3).trans y4; have k5 := (hc1 g 5 hg3).trans x5; have l5 := (hf1 g 5 hg3).trans y5; have k6 := (hc1 g 6 hg3).trans x6; have l6 := (hf1 g 6 hg3).trans y6; have k7 := (hc1 g 7 hg3).trans x7; have l7 := (hf1 g 7 hg3).trans y7; clear hc1 hf1)
            all_goals go_wp2
            all_goals
              refine ⟨⟨k + mn, ?_, Rest.mk_ (by have := HM.out; omega) (fun hlt => by first | (exfalso; have := HM.out; omega) | rw [Nat.add_assoc]) (by have := HM.out; omega), ?_, ?_⟩, ?_⟩
            all_goals first
              | (have := HM.out; omega)
              | exact grown_eight (only_below hG3 hb1) _ _ _ _ _ _ _ _
              | (simp only [slen]; omega)
              | (rw [take_more, ← List.append_assoc, ← HC.out, ← HQ.out]
                 have hl : (cur ++ q).length = cur.length + mn := by rw [List.length_append, HQL.out]
                 have hB1 := (blk_turned (t0 := t0) (t1 := t1) (t2 := t2) (t3 := t3) (t4 := t4) (t5 := t5) (t6 := t6) (t7 := t7) (Blk.below HB3'.out hb1 hg3))
                 refine ⟨RR, ?_, HRRl.out, hRRa, ?_⟩
                 · rw [regOf_full r cur q (by rw [HQL.out, ← HAT.out]; exact hfull), ← HRRt.out, ← HRR.out, hT.out, hl, ← Nat.add_assoc, ← HTK.out]
                   exact hB1
                 · rw [tailOf_full cur q (by rw [HQL.out, ← HAT.out]; exact hfull), hl, show (cur.length + mn) % 64 = 0 by have := HAT.out; omega, List.take_zero])))
        · have tf : ((at_ : Int) + (mn : Int) == 64) = false := by simp; omega
          rcases hz with ⟨hz0, hz1⟩ | hz0
          · have t1 : ((at_ : Int) == 0) = true := by simp [hz0]
            have t2 : decide ((64 : Int) ≤ (m : Int)) = false := decide_eq_false (by omega)
            have HZ0 := Lib.hid hz0
            clear hz0
            go_wp2_with (
              refine wpl_copy_n rfl _ _ _ _ rfl 5 Tryd.underlying22 (by kernel_rfl) _ _ _ _ _ _ rfl rfl g (8 + at_) 76 _ _ _ (q.map v8) hB2.out
                (by simp [HRL.out]; omega) (by simp [HQL.out, HRL.out]; omega) (by rw [List.length_map, HQL.out]; exact HMN.out)
                (fun _ => ⟨rfl, _, rfl, bs_cells HQB.out⟩) (v8_one q) mn (by rw [List.length_map, HQL.out]) ?_
              intro w2 B2 O2
              rw [hcells_put] at B2
              have k72 : w2.cell? ⟨g, 72, none⟩ = some (.int .u64 (tk : Int)) := by
                rw [B2.cell]
                exact hcells_72 _ _ _ rfl (by simp [HRL.out, HQL.out]; omega)
              have l72 := B2.frozen 72)
            go_roundw
            case rel =>
              refine ⟨k + mn, by have := HM.out; omega, Rest.mk_ (by have := HM.out; omega) (fun hlt => by rw [if_neg (by have := HM.out; omega), Nat.add_assoc]) (by have := HM.out; omega), ?_, only_set (only_only hG O2) _ _⟩
              rw [take_more, ← List.append_assoc, ← HC.out, ← HQ.out]
              rw [HRR.out] at B2
              exact hash_less HAT.out HTK.out HQL.out (by omega) HR.out HRL.out hrest hqa HTL.out B2
            case measure => simp only [slen]; omega
          · have t1 : ((at_ : Int) == 0) = false := by simp; omega
            go_wp2_with (
              refine wpl_copy_n rfl _ _ _ _ rfl 5 Tryd.underlying22 (by kernel_rfl) _ _ _ _ _ _ rfl rfl g (8 + at_) 76 _ _ _ (q.map v8) hB2.out
                (by simp [HRL.out]; omega) (by simp [HQL.out, HRL.out]; omega) (by rw [List.length_map, HQL.out]; exact HMN.out)
                (fun _ => ⟨rfl, _, rfl, bs_cells HQB.out⟩) (v8_one q) mn (by rw [List.length_map, HQL.out]) ?_
              intro w2 B2 O2
              rw [hcells_put] at B2
              have k72 : w2.cell? ⟨g, 72, none⟩ = some (.int .u64 (tk : Int)) := by
                rw [B2.cell]
                exact hcells_72 _ _ _ rfl (by simp [HRL.out, HQL.out]; omega)
              have l72 := B2.frozen 72)
            go_roundw
            case rel =>
              refine ⟨k + mn, by have := HM.out; omega, Rest.mk_ (by have := HM.out; omega) (fun hlt => by rw [if_neg (by have := HM.out; omega), Nat.add_assoc]) (by have := HM.out; omega), ?_, only_set (only_only hG O2) _ _⟩
              rw [take_more, ← List.append_assoc, ← HC.out, ← HQ.out]
              rw [HRR.out] at B2
              exact hash_less HAT.out HTK.out HQL.out (by omega) HR.out HRL.out hrest hqa HTL.out B2
            case measure => simp only [slen]; omega
    · have im : ¬ ((0 : Int) < (m : Int)) := by omega
      have id : decide ((0 : Int) < (m : Int)) = false := decide_eq_false im
      go_wp2
      go_end0
      refine ⟨rfl, ?_, hG⟩
      have e : all ++ p = cur := by
        rw [HC.out, List.take_of_length_le (by rw [← HN.out]; have := HM.out; omega)]
      rw [e]
      refine ⟨rest, ?_, HRL.out, hrest, by rw [← HAT.out]; exact HTL.out⟩
      rw [← HRR.out, ← HTK.out]
      exact HB.out
end Go.Proofs.YtfedlgcpgfofjaaDoor.Sha
