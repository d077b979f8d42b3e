/-
  DigestPlays: one step of play: what it leaves.
-/
import Derived.Test.YtfedlgcpgfofjaaDoorDPlay0
namespace Go.Proofs.YtfedlgcpgfofjaaDoor.Sha
open Go.RowKit Go.Proofs.YtfedlgcpgfofjaaDoorW.PrintWords Go.Proofs.YtfedlgcpgfofjaaDoor.PAll Go.Proofs.YtfedlgcpgfofjaaDoor.Plain
set_option linter.unusedVariables false
set_option linter.unusedSimpArgs false
theorem slot_eq (n : Int) : ∃ i : Nat, i < 4 ∧ ∀ w : World, Calls Tryd.prog 56 #[.int .i64 n] w fun e w' => e = .returned (.int .i64 (i : Int)) ∧ w = w' := by
  have h1 := Int.tmod_lt_of_pos n (show (0 : Int) < 4 by decide)
  have h2 : -4 < Int.tmod n 4 := by
    have := Int.lt_tmod_of_pos n (show (0 : Int) < 4 by decide)
    omega
  have h3 : wrap64 (Int.tmod n 4 + 4) = Int.tmod n 4 + 4 := w64 (by omega) (by omega)
  have h4 : Int.tmod (Int.tmod n 4 + 4) 4 = (Int.tmod n 4 + 4) % 4 := Int.tmod_eq_emod_of_nonneg (by omega)
  refine ⟨((Int.tmod n 4 + 4) % 4).toNat, by omega, fun w => ?_⟩
  have h5 : ((((Int.tmod n 4 + 4) % 4).toNat : Nat) : Int) = Int.tmod (wrap64 (Int.tmod n 4 + 4)) 4 := by rw [h3, h4]; omega
  rw [h5]
  clear h1 h2 h3 h4 h5
  go_enter Tryd.func56, Tryd.ntmps56
  go_wp2
  go_ret
  exact ⟨rfl, rfl⟩
/-- What a step leaves. -/
def Stepped (base M : Nat) (w : World) (g0 : Nat → Nat) (e : Ending) (w' : World) : Prop :=
  ∃ g R P A V, e = .returned (.tuple #[.agg (hptr g).toArray, .agg (rall R P V).toArray, .bool true]) ∧ Four w' base M g R P A V ∧ Below base w w' ∧ ∀ q, q < w.heap.size → (∀ k, k < 4 → g0 k ≠ q) → w'.heap[q]? = w.heap[q]?
theorem upd_id {α : Type} (f : Nat → α) (i : Nat) : upd f i (f i) = f := by
  funext k
  by_cases e : k = i
  · subst e; rw [upd_self]
  · rw [upd_ne _ _ _ _ e]
theorem Only.refl_ (g : Nat) (w : World) : Only g w w := ⟨rfl, rfl, rfl, rfl, fun _ _ => rfl⟩
theorem Only.setC {g : Nat} {w w' : World} (h : Only g w w') (j : Nat) (u : Value) : Only g w (w'.setCell ⟨g, j, none⟩ u) :=
  ⟨h.os, h.tape, h.output, by simpa [World.setCell] using h.size, fun k hk => (Below.heap_setCell w' ⟨g, j, none⟩ u k hk).trans (h.block k hk)⟩
theorem num_anyQ (e : Int) (w : World) : Calls Tryd.prog 31 #[.int .i64 e] w fun x w' => x = .returned (.int .i64 e) ∧ Below w.heap.size w w' :=
  (wicketlaw02_num.calls e e w rfl).mono fun x w' ⟨h, hd⟩ => ⟨h, hd.below⟩
theorem wordsOf_all {b : List Nat} (hb : All 256 b) : All 4294967296 (wordsOf b) := by
  intro x hx
  obtain ⟨k, _, rfl⟩ := List.mem_map.1 hx
  exact word4_lt hb k
theorem load_ok {b : List Nat} (h : loadErr b = 0) : b.length = 104 ∧ numOf b ≤ 1152921504606846976 := by
  unfold loadErr at h
  by_cases h1 : b.length < 104
  · rw [if_pos h1] at h; cases h
  · rw [if_neg h1] at h
    by_cases h2 : 104 < b.length
    · rw [if_pos h2] at h; cases h
    · rw [if_neg h2] at h
      by_cases h3 : 1152921504606846976 < numOf b
      · rw [if_pos h3] at h; cases h
      · exact ⟨by omega, by omega⟩
theorem load_hash {w : World} {g : Nat} {b : List Nat} (hb : All 256 b) (hl : b.length = 104) (h : Blk w g 76 (hcells (wordsOf b) (restOf b) (numOf b)).toArray) :
    HashAt w g (wordsOf b) (numOf b - numOf b % 64) ((restOf b).take (numOf b % 64)) := by
  have hr : (restOf b).length = 64 := by unfold restOf; rw [List.length_take, List.length_drop, hl]; omega
  have hm : numOf b % 64 < 64 := Nat.mod_lt _ (by decide)
  have ha : ((restOf b).take (numOf b % 64)).length = numOf b % 64 := by rw [List.length_take, hr]; omega
  have e1 : regOf (wordsOf b) ((restOf b).take (numOf b % 64)) = wordsOf b := by
    unfold regOf
    rw [ha, show numOf b % 64 / 64 = 0 by omega]
    rfl
  have e2 : tailOf ((restOf b).take (numOf b % 64)) = (restOf b).take (numOf b % 64) := by
    unfold tailOf
    rw [ha, show 64 * (numOf b % 64 / 64) = 0 by omega, List.drop_zero]
  refine ⟨restOf b, ?_, hr, ?_, ?_⟩
  · rw [e1, ha, show numOf b - numOf b % 64 + numOf b % 64 = numOf b by omega]
    exact h
  · unfold restOf
    exact (hb.drop 32).take 64
  · rw [e2, ha, Nat.mod_mod]
theorem Four.drew {w : World} {base M : Nat} {g : Nat → Nat} {R : Nat → List Nat} {P : Nat → Nat} {A : Nat → List Nat} {V : Nat → Value} (h : Four w base M g R P A V) : Four w.drew base M g R P A V := ⟨fun k hk => (h.each k hk).keep rfl (fun _ _ => rfl), h.ne⟩
theorem stepped_of {base M G6 G7 : Nat} {w wE w6 w7 : World} {g g0 : Nat → Nat} {R : Nat → List Nat} {P : Nat → Nat} {A : Nat → List Nat} {V : Nat → Value} (F : Four wE base M g R P A V) (hb : Below base w wE) (O6 : Only G6 wE w6) (O7 : Only G7 w6 w7) (h6 : base ≤ G6) (h7 : base ≤ G7)
    (hz : ∀ k, k < 4 → g k ≠ G6 ∧ g k ≠ G7) (hv : ∀ k, k < 4 → ∀ x, (V k).ownBlock = some x → x ≠ G6 ∧ x ≠ G7) (hq : ∀ q, q < w.heap.size → (∀ k, k < 4 → g0 k ≠ q) → wE.heap[q]? = w.heap[q]?) (h6' : w.heap.size ≤ G6) (h7' : w.heap.size ≤ G7) :
    Four w7 base M g R P A V ∧ Below base w w7 ∧ ∀ q, q < w.heap.size → (∀ k, k < 4 → g0 k ≠ q) → w7.heap[q]? = w.heap[q]? :=
  ⟨⟨fun k hk => (F.each k hk).keep ((O7.block _ (hz k hk).2).trans (O6.block _ (hz k hk).1)) (fun x hx => (O7.block _ (hv k hk x hx).2).trans (O6.block _ (hv k hk x hx).1)), F.ne⟩, O7.below (O6.below hb h6) h7, fun q h1 h2 => (O7.block q (by omega)).trans ((O6.block q (by omega)).trans (hq q h1 h2))⟩
end Go.Proofs.YtfedlgcpgfofjaaDoor.Sha
