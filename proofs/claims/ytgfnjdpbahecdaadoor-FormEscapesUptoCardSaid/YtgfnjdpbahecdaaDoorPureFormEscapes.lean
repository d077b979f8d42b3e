/-
  THE PURE LAW of FormEscapes: every text written and read, of the sizes that the bounded statement speaks of.
-/
import Derived.Test.YtgfnjdpbahecdaaDoorPAllx19
import Derived.Test.YtgfnjdpbahecdaaDoorPure03b
namespace Go.Proofs.YtgfnjdpbahecdaaDoor.Pure
open Go.RowKit Go.Proofs.YtgfnjdpbahecdaaDoorW.PrintWords Go.Proofs.YtgfnjdpbahecdaaDoor.Plain Go.Proofs.YtgfnjdpbahecdaaDoor.Spec Go.Proofs.YtgfnjdpbahecdaaDoor.PAll
set_option linter.unusedSimpArgs false
set_option linter.unusedVariables false
def digitsB : ByteArray := ⟨#[48, 49, 50, 51, 52, 53, 54, 55, 56, 57, 65, 66, 67, 68, 69, 70]⟩
set_option maxRecDepth 100000 in
theorem plain_all : ∀ n : Fin 256, wicketref03_plain.f (n.val : Int) = some (plainB (UInt8.ofNat n.val)) := by decide +kernel
theorem plain_eq (c : UInt8) : wicketref03_plain.f (c.toNat : Int) = some (plainB c) := by
  have h := plain_all ⟨c.toNat, c.toNat_lt⟩
  rw [UInt8.ofNat_toNat] at h
  exact h
set_option maxRecDepth 100000 in
theorem digs_all : ∀ n : Fin 256, (Int.tdiv (n.val : Int) 16 % 256 < 16 ∧ 0 ≤ Int.tdiv (n.val : Int) 16 % 256 ∧ 0 ≤ Int.tmod (n.val : Int) 16 ∧ Int.tmod (n.val : Int) 16 < 16) ∧ bt digitsB (Int.tdiv (n.val : Int) 16 % 256) = ((hexD (n.val / 16)).toNat : Int) ∧ bt digitsB (Int.tmod (n.val : Int) 16) = ((hexD (n.val % 16)).toNat : Int) := by decide +kernel
theorem refesc_loop (s : ByteArray) (hs : s.size ≤ 1048576) : ∀ (m i : Nat), i + m = s.size →
    Ev (fun k => wicketref03_Escape.l0 k s (n8 (escL (s.data.toList.take i))) digitsB (i : Int)) (bs (escL s.data.toList)) := by
  intro m
  induction m with
  | zero =>
    intro i hi
    refine Ev.step (f := fun _ => some (bs (escL s.data.toList))) (fun k => ?_) (Ev.now _)
    simp only [wicketref03_Escape.l0]
    rw [if_neg (by omega), str_n8, List.take_of_length_le (by rw [data_len]; omega)]
  | succ m ih =>
    intro i hi
    have hlt : i < s.size := by omega
    have hbt := bt_get s i hlt
    have hpl := plain_eq s[i]
    have hdg := digs_all ⟨s[i].toNat, s[i].toNat_lt⟩
    have hel : (n8 (escL (s.data.toList.take i))).length ≤ 3 * 1048576 := by
      rw [n8_len]
      have h1 := escL_len (s.data.toList.take i)
      have h2 := List.length_take_le i s.data.toList
      omega
    have key := ih (i + 1) (by omega)
    rw [escL_take s i hlt] at key
    have hds : digitsB.size = 16 := rfl
    generalize s[i] = c at *
    refine Ev.step (fun k => ?_) key
    simp only [wicketref03_Escape.l0]
    rw [if_pos (by omega), if_pos (by omega), hbt, hpl, Option.bind_some, w64 (by omega) (by omega)]
    unfold escB
    by_cases h32 : c = 32
    · have hp : plainB c = false := by rw [h32]; decide
      have h32' : (c.toNat : Int) = 32 := by rw [h32]; rfl
      rw [hp, if_neg (by simp), if_pos h32', if_pos (by omega), if_pos h32, ← n8_snoc]
      rfl
    · have h32' : ¬ (c.toNat : Int) = 32 := fun e => h32 (u8_lit c 32 (by omega))
      rw [if_neg h32]
      cases hp : plainB c with
      | true =>
        rw [if_pos rfl, if_pos (by omega), if_pos rfl, ← n8_snoc]
        rfl
      | false =>
        obtain ⟨⟨g1, g2, g3, g4⟩, g5, g6⟩ := hdg
        simp only at g1 g2 g3 g4 g5 g6
        rw [if_neg (by simp), if_neg h32', if_pos (by omega), if_pos (by omega), if_pos (by omega), if_pos (by omega), Option.bind_some, if_pos (by simp; omega), if_neg (by simp), g5, g6]
        simp only [n8, List.map_append, List.map_cons, List.map_nil]
        rfl
theorem FormEscapes (s : ByteArray) (ok0 : s.size ≤ 140737488351232) (hb : s.size + 1 ≤ 1048576) : ∃ k, wicketlaw03_FormEscapes.f k s = some true := by
  refine Ev.rounds ?_
  unfold wicketlaw03_FormEscapes.f
  have h1 : urlform_Escape.f s = some (bs (escL s.data.toList)) := by unfold urlform_Escape.f; rw [if_pos (by omega)]; rfl
  have h2 := unesc_eq s (by omega)
  rw [h1, h2]
  simp only [Option.bind_some]
  refine Ev.bind (a := bs (escL s.data.toList)) ?_ (Ev.pos rfl (Ev.bind (refun_ev s (by omega)) (Ev.pos rfl (Ev.bind (Ev.now _) (Ev.pos rfl (Ev.pos rfl (Ev.bind live_ev (Ev.now _))))))))
  unfold wicketref03_Escape.f
  exact refesc_loop s (by omega) s.size 0 (by omega)
end Go.Proofs.YtgfnjdpbahecdaaDoor.Pure
