/-
  The reference's functions over the register: what the calls do, walked.
-/
import Derived.Test.YtfedlgcpgfofjaaDoorDRefTurn
import Derived.Test.YtfedlgcpgfofjaaDoorDWalk
namespace Go.Proofs.YtfedlgcpgfofjaaDoor.Sha
open Go.RowKit Go.Proofs.YtfedlgcpgfofjaaDoorW.PrintWords
set_option linter.unusedVariables false
theorem one32 : ∀ (l : List Nat), ∀ v ∈ l.map v32, v.oneCell' = true := by
  intro l v hv
  obtain ⟨x, _, rfl⟩ := List.mem_map.1 hv
  rfl
theorem c32_blk (l : List Nat) : c32 l = ([] ++ l.map v32 ++ ([] : List Value)).toArray := by simp [c32]
theorem Tab2.below {w w' : World} {B : Nat} (h : Tab2 w) (hb : Below B w w') (hB : 2 < B) : Tab2 w' := fun j hj => (hb.cell (p := ⟨2, j, none⟩) hB).trans (h j hj)
theorem Tab1.below {w w' : World} {B : Nat} (h : Tab1 w) (hb : Below B w w') (hB : 1 < B) : Tab1 w' := fun j hj => (hb.cell (p := ⟨1, j, none⟩) hB).trans (h j hj)
set_option maxRecDepth 100000 in
set_option maxHeartbeats 400000 in
theorem rblocks_any (r q : List Nat) (A : Option Addr) (c : Nat) (w : World) (hr : r.length = 8) (hra : All 4294967296 r) (hq2 : q.length ≤ 140737488355328) (hqa : All 256 q)
    (hbs : C8 w A q.length q) (ht : Tab2 w) (h2 : 2 < w.heap.size) :
    Calls Tryd.prog 61 #[.agg (c32 r), .slice A q.length c] w fun e w' => e = .returned (.agg (c32 (blocks r q (q.length / 64)))) ∧ Below w.heap.size w w' := by
  have main : (q.length < 64 ∨ ∃ b o, A = some ⟨b, o, none⟩ ∧ b < w.heap.size ∧ Bs w b o q) := by
    rcases Nat.lt_or_ge q.length 64 with h | h
    · exact .inl h
    · exact .inr (hbs.at_ (by omega))
  have HR := Lib.hid hr
  clear hr hbs
  obtain ⟨N, hN⟩ : ∃ N, N = q.length := ⟨_, rfl⟩
  go_enter Tryd.func61, Tryd.ntmps61
  go_wp2
  go_loopw [5] (fun i wr => ∃ k : Nat, k ≤ q.length / 64 ∧ i = .int .i64 (64 * (k : Int)) ∧ Below w.heap.size w wr ∧ Blk wr w.heap.size 56 (c32 (blocks r q k)) ∧ Blk wr (w.heap.size + 1) 56 (c32 (List.replicate 8 0))) (fun i _ => q.length - (intOf i).toNat)
  case atStart => exact ⟨0, by omega, rfl, ((Below.refl _ _).alloc (Nat.le_refl _) _).alloc (by simp) _, (Blk.new w 56 (c32 r)).alloc _, Blk.new_ (w.alloc _) 56 (c32 (List.replicate 8 0)) _ (by simp)⟩
  case round =>
    obtain ⟨k, hk, rfl, hbel, B0, B1⟩ := hrel
    have hRl := Lib.hid (blocks_len HR.out q k)
    have hRa := blocks_all hra q k
    obtain ⟨R, hR⟩ : ∃ R, R = blocks r q k := ⟨_, rfl⟩
    rw [← hR] at hRl hRa B0
    have HRk := Lib.hid hR
    clear hR
    have CB := Lib.hid ((c32_blk R) ▸ B0)
    by_cases hlt : 64 * k + 64 ≤ q.length
    · have hb1 : 64 * (k : Int) + 64 ≤ (q.length : Int) := by omega
      rcases main with hm | ⟨b, o, rfl, hb, hbs⟩
      · omega
      · have hcall : Calls Tryd.prog 65 #[.agg (R.map v32).toArray, .slice (some ⟨b, o, none⟩) q.length c, .int .i64 (64 * (k : Int))] wr (fun e w' => e = .returned (.agg (c32 (turn R ((q.drop (64 * k)).take 64)))) ∧ Below wr.heap.size wr w') := by
          have h := rturn_any R q b o c (64 * k) wr hRl.out hRa (by omega) hq2 hqa (hbs.below hbel hb) (by have := hbel.size; omega) (ht.below hbel h2) (by have := hbel.size; omega)
          rw [show ((64 * k : Nat) : Int) = 64 * (k : Int) by omega] at h
          exact h
        obtain ⟨T, hT⟩ : ∃ T, T = turn R ((q.drop (64 * k)).take 64) := ⟨_, rfl⟩
        have hTl : T.length = 8 := by rw [hT]; exact turn_len _ _
        rw [← hT] at hcall
        have HT := Lib.hid hT; have HTl := Lib.hid hTl
        clear hT hTl
        go_wp2_with (first
          | (refine wpl_load rfl 56 _ rfl w.heap.size 0 rfl 56 [] (R.map v32) [] CB.out rfl _ Tryd.underlying56 rfl (by rw [List.length_map, hRl.out]; kernel_rfl) ?_)
          | (go_at_call 65; (with_reducible refine hcall.mono ?_); rintro e w1 ⟨rfl, hb1⟩)
          | (refine wpl_store rfl 56 _ _ rfl w.heap.size 0 rfl 56 [] (R.map v32) [] (T.map v32) rfl (Blk.below CB.out hb1 B0.lt) rfl (by rw [List.length_map, List.length_map, HTl.out, hRl.out]) (by rw [List.length_map, HTl.out]; kernel_rfl) (one32 T) ?_; intro w2 B2 O2))
        go_roundw
        case rel =>
          refine ⟨k + 1, by omega, by go_num, O2.below (hbel.trans (hb1.mono hbel.size)) (Nat.le_refl _), ?_, (B1.below hb1 B1.lt).only O2 (by omega)⟩
          rw [blocks, ← HRk.out, ← HT.out, c32_blk]
          exact B2
        case measure => simp [intOf]; omega
    · have hge : (q.length : Int) < 64 * (k : Int) + 64 := by omega
      have hB1 := Lib.hid ((c32_blk (List.replicate 8 0)) ▸ B1)
      clear main
      go_wp2_with (first
        | (refine wpl_load rfl 56 _ rfl w.heap.size 0 rfl 56 [] (R.map v32) [] CB.out rfl _ Tryd.underlying56 rfl (by rw [List.length_map, hRl.out]; kernel_rfl) ?_)
        | (refine wpl_store rfl 56 _ _ rfl (w.heap.size + 1) 0 rfl 56 [] ((List.replicate 8 0).map v32) [] (R.map v32) rfl hB1.out rfl (by rw [List.length_map, hRl.out]; rfl) (by rw [List.length_map, hRl.out]; kernel_rfl) (one32 R) ?_; intro w2 B2 O2))
      have e : blocks r q (q.length / 64) = R := by rw [HRk.out, show k = q.length / 64 by omega]
      rw [e]
      exact bodyPost_ret (results_cell_row rfl _ _ (w.heap.size + 1) 56 (c32 R) (0, 0) _ rfl (by rw [c32_blk]; exact B2) Tryd.underlying56 rfl (by rw [show (c32 R).size = 8 by simp [c32, hRl.out]]; kernel_rfl)) rfl ⟨rfl, O2.below hbel (by omega)⟩
end Go.Proofs.YtfedlgcpgfofjaaDoor.Sha
