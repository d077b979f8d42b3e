/-
  register.bytes, New, Begin: what the calls do, walked.
-/
import Derived.Test.YtfedlgcpgfofjaaDoorDSha2
namespace Go.Proofs.YtfedlgcpgfofjaaDoor.Sha
open Go.RowKit Go.Proofs.YtfedlgcpgfofjaaDoorW.PrintWords
set_option linter.unusedVariables false
theorem run_index_row {P : Program} (T E n : Nat) {d : TypeDesc} (hu : P.underlying T = some (.array n E)) (hE : P.underlying E = some d) (hd : d.isRow = false) (hs : (P.info? E).map (·.size) = some 1) (cs : Array Value) (k : Nat) (v : Value) (hk : k < n)
    (hc : cs[k]? = some v) (W : World) : (Instr.index T (.agg cs) (.int .i64 (k : Int))).run P W = .ok v W := by
  have hagg : (isAgg E).run P W = .ok false W := by
    unfold isAgg
    rw [Sem.run_bind, run_underlying hE W]
    cases d <;> simp_all [TypeDesc.isRow]
  cases hq : P.info? E with
  | none => simp [hq] at hs
  | some i =>
    have h1 : i.size = 1 := by simpa [hq] using hs
    simp [Instr.index, asIntOf, run_underlying hu, sizeOf, typeInfo, hq, h1, part, hagg, hc, hk]
theorem bytesR_app (a b : List Nat) : bytesR (a ++ b) = bytesR a ++ bytesR b := by unfold bytesR; rw [List.flatMap_append]
theorem bytesR_pre (r : List Nat) (k : Nat) (h : k ≤ r.length) : (bytesR r).take (4 * k) = bytesR (r.take k) := by
  have e : bytesR r = bytesR (r.take k) ++ bytesR (r.drop k) := by rw [← bytesR_app, List.take_append_drop]
  rw [e, List.take_left' (by rw [bytesR_len, List.length_take]; omega)]
section
variable {P : Program} {w : World} {ops : Array Oper} {rest : List Oper} {o : Oper} {a : Act} {Q : Exit → Act → World → Prop}
theorem wpl_set (hgd : o.guard = none) (ty : TypeId) (x y : Operand) (ho : o.op = .store ty x y) (g i : Nat) (hx : a.eval x = .pointer (some ⟨g, i, none⟩)) (t : TypeId) (cs : Array Value) (v : Value) (hy : a.eval y = v) (hvc : v.cells = #[v])
    (hv : v.oneCell' = true) (hB : Blk w g t cs) (hi : i < cs.size) (hs : (P.info? ty).map (·.size) = some 1) (h : ∀ w', Blk w' g t (cs.setIfInBounds i v) → Only g w w' → wpList P ops Q rest (a.put o.dst undef) w') : wpList P ops Q (o :: rest) a w := by
  have hst := run_storeCells_at P g i t [v] 0 cs w hB (by simp only [List.length_singleton]; omega) (by simpa using hv)
  have e : (cs.toList.take i ++ [v] ++ cs.toList.drop (i + 1)).toArray = cs.setIfInBounds i v := by
    apply Array.ext'
    rw [Array.toList_setIfInBounds, List.set_eq_take_append_cons_drop, if_pos (by simpa using hi)]
    simp
  refine wpList_plain hgd fun _ hK => ?_
  unfold Oper.wp execOp
  cases hq : P.info? ty with
  | none => simp [hq] at hs
  | some q =>
    have h1 : q.size = 1 := by simpa [hq] using hs
    have hrun : (storeVar ty ⟨g, i, none⟩ v).run P w = .ok () (w.setRow g (cs.setIfInBounds i v)) := by
      rw [← e]
      simp only [Nat.add_zero, List.length_singleton] at hst
      simp [storeVar, sizeOf, typeInfo, hq, hvc, h1] at hst ⊢
      exact hst
    simp only [ho, hx, hy, Instr.storeAt, Instr.sureAddr, Sem.run_bind, Sem.run_pure, Result.andThen_ok, hrun]
    exact hK _ _ (h _ (setRow_heap w g _ _ t _ hB) (Only.setRow w g _))
end
set_option maxRecDepth 100000 in
set_option maxHeartbeats 1000000 in
theorem bytes_any (r : List Nat) (w : World) (hr : r.length = 8) (hra : All 4294967296 r) :
    Calls Tryd.prog 49 #[.agg (r.map v32).toArray] w fun e w' => e = .returned (.agg ((bytesR r).map v8).toArray) ∧ Below w.heap.size w w' := by
  obtain ⟨D, hD⟩ : ∃ D, D = bytesR r := ⟨_, rfl⟩
  have hDl : D.length = 32 := by rw [hD, bytesR_len, hr]
  rw [← hD]
  have HR := Lib.hid hr; have HD := Lib.hid hD; have HDl := Lib.hid hDl
  clear hr hD hDl
  have hix : ∀ (W : World) (k : Nat), k < 8 → (Instr.index 73 (.agg (r.map v32).toArray) (.int .i64 (k : Int))).run Tryd.prog W = .ok (.int .u32 (r.getD k 0 : Nat)) W := by
    intro W k hk
    exact run_index_row 73 55 8 Tryd.underlying73 Tryd.underlying55 rfl (by kernel_rfl) _ k _ hk (by rw [List.getElem?_toArray, List.getElem?_map, List.getElem?_eq_getElem (by rw [HR.out]; exact hk), List.getD_eq_getElem?_getD, List.getElem?_eq_getElem (by rw [HR.out]; exact hk)]; rfl) W
  have HIX := Lib.hid hix
  clear hix
  go_enter Tryd.func49, Tryd.ntmps49
  go_wp2_with (refine wpl_load rfl 73 _ rfl w.heap.size 0 rfl 73 [] (r.map v32) [] (by rw [List.nil_append, List.append_nil]; exact ((Blk.new w 73 _).alloc _).alloc _) rfl _ Tryd.underlying73 rfl (by rw [List.length_map, HR.out]; kernel_rfl) ?_)
  go_loopw [7] (fun i wr => ∃ k : Nat, k ≤ 8 ∧ i = .int .i64 (k : Int) ∧ Below w.heap.size w wr ∧ Blk wr (w.heap.size + 1) 24 (c8 (List.replicate 32 0)) ∧ Blk wr (w.heap.size + 1 + 1) 24 (c8 (D.take (4 * k) ++ List.replicate (32 - 4 * k) 0))) (fun i _ => 8 - (intOf i).toNat)
  case atStart => exact ⟨0, by omega, rfl, (((Below.refl _ _).alloc (Nat.le_refl _) _).alloc (by simp) _).alloc (by simp; omega) _, (Blk.new_ (w.alloc _) 24 (c8 (List.replicate 32 0)) _ (by simp)).alloc _, Blk.new_ ((w.alloc _).alloc _) 24 _ _ (by simp)⟩
  case round =>
    obtain ⟨k, hk, rfl, hbel, BZ, B2⟩ := hrel
    by_cases hlt : k < 8
    · have dk : decide ((k : Int) < 8) = true := decide_eq_true (by omega)
      obtain ⟨x, ex, lx⟩ : ∃ x : Nat, x = r.getD k 0 ∧ x < 4294967296 := ⟨_, rfl, hra.getD (by decide) k⟩
      have hi : ∀ W : World, (Instr.index 73 (.agg (r.map v32).toArray) (.int .i64 (k : Int))).run Tryd.prog W = .ok (.int .u32 (x : Int)) W := fun W => by rw [ex]; exact HIX.out W k hlt
      have EX := Lib.hid ex
      clear ex
      have hsz : (c8 (D.take (4 * k) ++ List.replicate (32 - 4 * k) 0)).size = 32 := by simp [c8, HDl.out]; omega
      have HSZ := Lib.hid hsz; have HB2 := Lib.hid B2
      clear hsz B2
      have ak : (0 : Int) ≤ (k : Int) := by omega
      have bk : (k : Int) < 8 := by omega
      have n1 : (4 * (k : Int) + 1).toNat = 4 * k + 1 := by omega
      have n2 : (4 * (k : Int) + 2).toNat = 4 * k + 2 := by omega
      have n3 : (4 * (k : Int) + 3).toNat = 4 * k + 3 := by omega
      have n0 : (4 * (k : Int)).toNat = 4 * k := by omega
      go_wp2_with (first
        | (refine wpl_set rfl 5 _ _ rfl (w.heap.size + 1 + 1) (4 * k) rfl 24 _ _ rfl rfl rfl HB2.out (by rw [HSZ.out]; omega) (by kernel_rfl) ?_; intro w1 B21 O1)
        | (refine wpl_set rfl 5 _ _ rfl (w.heap.size + 1 + 1) (4 * k + 1) rfl 24 _ _ rfl rfl rfl B21 (by simp only [Array.size_setIfInBounds, HSZ.out]; omega) (by kernel_rfl) ?_; intro w2 B22 O2)
        | (refine wpl_set rfl 5 _ _ rfl (w.heap.size + 1 + 1) (4 * k + 2) rfl 24 _ _ rfl rfl rfl B22 (by simp only [Array.size_setIfInBounds, HSZ.out]; omega) (by kernel_rfl) ?_; intro w3 B23 O3)
        | (refine wpl_set rfl 5 _ _ rfl (w.heap.size + 1 + 1) (4 * k + 3) rfl 24 _ _ rfl rfl rfl B23 (by simp only [Array.size_setIfInBounds, HSZ.out]; omega) (by kernel_rfl) ?_; intro w4 B24 O4))
      go_roundw
      case rel =>
        have hBe := O4.below (O3.below (O2.below (O1.below hbel (by omega)) (by omega)) (by omega)) (by omega)
        have hBZ := ((((BZ.only O1 (by omega)).only O2 (by omega)).only O3 (by omega)).only O4 (by omega))
        refine ⟨k + 1, by omega, by go_num, hBe, hBZ, ?_⟩
        have e0 : (x : Int) / 16777216 = ((x / 16777216 % 256 : Nat) : Int) := by omega
        have e1 : (x : Int) / 65536 % 256 = ((x / 65536 % 256 : Nat) : Int) := by omega
        have e2 : (x : Int) / 256 % 256 = ((x / 256 % 256 : Nat) : Int) := by omega
        have e3 : (x : Int) % 256 = ((x % 256 : Nat) : Int) := by omega
        rw [e0, e1, e2, e3] at B24
        have hl := HDl.out
        have p0 := c8_push (D.take (4 * k)) (31 - 4 * k) (4 * k) (x / 16777216 % 256) (by rw [List.length_take]; omega)
        have p1 := c8_push (D.take (4 * k) ++ [x / 16777216 % 256]) (30 - 4 * k) (4 * k + 1) (x / 65536 % 256) (by rw [List.length_append, List.length_take]; simp; omega)
        have p2 := c8_push (D.take (4 * k) ++ [x / 16777216 % 256] ++ [x / 65536 % 256]) (29 - 4 * k) (4 * k + 2) (x / 256 % 256) (by rw [List.length_append, List.length_append, List.length_take]; simp; omega)
        have p3 := c8_push (D.take (4 * k) ++ [x / 16777216 % 256] ++ [x / 65536 % 256] ++ [x / 256 % 256]) (28 - 4 * k) (4 * k + 3) (x % 256) (by rw [List.length_append, List.length_append, List.length_append, List.length_take]; simp; omega)
        rw [show 31 - 4 * k + 1 = 32 - 4 * k by omega] at p0
        rw [show 30 - 4 * k + 1 = 31 - 4 * k by omega] at p1
        rw [show 29 - 4 * k + 1 = 30 - 4 * k by omega] at p2
        rw [show 28 - 4 * k + 1 = 29 - 4 * k by omega] at p3
        have hB : Blk w4 (w.heap.size + 1 + 1) 24 (((((c8 (D.take (4 * k) ++ List.replicate (32 - 4 * k) 0)).setIfInBounds (4 * k) (v8 (x / 16777216 % 256))).setIfInBounds (4 * k + 1) (v8 (x / 65536 % 256))).setIfInBounds (4 * k + 2) (v8 (x / 256 % 256))).setIfInBounds (4 * k + 3) (v8 (x % 256))) := B24
        rw [p0, p1, p2, p3] at hB
        have eD : D.take (4 * (k + 1)) = D.take (4 * k) ++ [x / 16777216 % 256] ++ [x / 65536 % 256] ++ [x / 256 % 256] ++ [x % 256] := by
          rw [HD.out, bytesR_pre r (k + 1) (by rw [HR.out]; omega), bytesR_pre r k (by rw [HR.out]; omega), bytesR_take r k (by rw [HR.out]; omega), ← EX.out]
          simp [bytesW]
        rw [eD, show 32 - 4 * (k + 1) = 28 - 4 * k by omega]
        exact hB
      case measure => simp [intOf]; omega
    · have dk : decide ((k : Int) < 8) = false := decide_eq_false (by omega)
      have BD' : Blk wr (w.heap.size + 1 + 1) 24 ([] ++ D.map v8 ++ []).toArray := by
        have h := B2
        rw [show 32 - 4 * k = 0 by omega, List.replicate_zero, List.append_nil, List.take_of_length_le (by rw [HDl.out]; omega)] at h
        rw [List.nil_append, List.append_nil]
        exact h
      have BZ' : Blk wr (w.heap.size + 1) 24 ([] ++ (List.replicate 32 0).map v8 ++ []).toArray := BZ
      have HB := Lib.hid BD'; have HBZ := Lib.hid BZ'
      clear B2 BD' BZ BZ'
      go_wp2_with (first
        | (refine wpl_load rfl 24 _ rfl (w.heap.size + 1 + 1) 0 rfl 24 [] (D.map v8) [] HB.out rfl _ Tryd.underlying24 rfl (by rw [List.length_map, HDl.out]; kernel_rfl) ?_)
        | (refine wpl_store rfl 24 _ _ rfl (w.heap.size + 1) 0 rfl 24 [] ((List.replicate 32 0).map v8) [] (D.map v8) rfl HBZ.out rfl (by rw [List.length_map, HDl.out]; rfl) (by rw [List.length_map, HDl.out]; kernel_rfl) (v8_one D) ?_; intro w9 B9 O9))
      exact bodyPost_ret (results_cell_row rfl _ _ (w.heap.size + 1) 24 (D.map v8).toArray (0, 0) _ rfl (by have h9 := B9; rw [List.nil_append, List.append_nil] at h9; exact h9) Tryd.underlying24 rfl (by rw [show (D.map v8).toArray.size = 32 by simp [HDl.out]]; kernel_rfl)) rfl ⟨rfl, O9.below hbel (by omega)⟩
end Go.Proofs.YtfedlgcpgfofjaaDoor.Sha
