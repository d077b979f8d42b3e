/-
  THE ROW OF THE LAW wicket/wicketlaw09.CodesPieces (said), out of its pure law and the walk of its function. Written by rowgen.py, a program of this session.
-/
import Derived.Test.YtaeipffenlkjpaaRows
import Derived.Test.YtaeipffenlkjpaaCPieces
import Derived.Test.YtaeipffenlkjpaaOpen
import Derived.WalkKit
import Derived.ProofKit
import Derived.OpenShut
import Derived.Deep.DeepHandedRow
import Derived.Lib.LaidTab
import Derived.Below
import Derived.SizedLaws
namespace Go.Proofs.Ytaeipffenlkjpaa.codesPiecesRow
open Go.ChangeShapes Go.WideShapes Go.ChangeAt Go.RowKit Go.Proofs.Ytaeipffenlkjpaa.Open Go.Proofs.YtaeipffenlkjpaaW.PrintWords Go.Proofs.Ytaeipffenlkjpaa.Sha
set_option linter.unusedVariables false
set_option linter.unusedSimpArgs false
theorem own : ownKnob Try.prog.godebug = none := by kernel_rfl
theorem laidOut : laidOutB Try.prog = true := by kernel_rfl
set_option maxRecDepth 100000 in
theorem opens_46 : Opens Try.prog 46 k46 (fun x => (1 + ((x.f1.map fun y => 1).sum + 1) + 1)) (fun x => ((Lit.int .i64 x.f0).wf = true) ∧ (x.f1.length * 1 ≤ 140737488351232 ∧ ∀ y, y ∈ x.f1 → (Lit.int .u8 y).wf = true)) := by
  intro H enc w base spare held fuel cs x h
  obtain ⟨xs, n, _, rfl, hl, hlen, hf⟩ := DataW.trod_struct Try.underlying46 h
  have hl' : cs.length = 2 := hl.trans (by kernel_rfl)
  match xs, hlen with
  | [y0, y1], _ =>
    have g0 : DataW.trod enc Try.prog w base spare held n 3 ((cs.drop 0).take 1) = some y0 := hf 0 _ rfl
    obtain ⟨a0, e0, m0, o0⟩ := (opens_int Try.underlying3) H enc w base spare held n _ y0 g0
    have g1 : DataW.trod enc Try.prog w base spare held n 31 ((cs.drop 1).take 1) = some y1 := hf 1 _ rfl
    obtain ⟨a1, e1, m1, o1⟩ := (opens_slice (d := (Kd.int .u8)) Try.underlying31 (opens_int Try.underlying5) (by kernel_rfl) (by kernel_rfl)) H enc w base spare held n _ y1 g1
    have m0' : 1 ≤ Rows.uptoBulk y0.1 := m0
    have m1' : ((a1.map fun y => 1).sum + 1) ≤ Rows.uptoBulk y1.1 := m1
    have hcut : cs = (cs.drop 0).take 1 ++ ((cs.drop 1).take 1) := by
      have z1 : (cs.drop 1).take 1 = cs.drop 1 := List.take_of_length_le (by simp; omega)
      have z0 : (cs.drop 0).take 1 ++ cs.drop 1 = cs.drop 0 := by rw [List.drop_zero]; exact List.take_append_drop _ _
      rw [z1, z0]
      simp
    refine ⟨⟨a0, a1⟩, ⟨_, _, hcut, e0, e1⟩, ?_, fun hw => ?_⟩
    · simp only [Rows.uptoBulk, Rows.uptoBulkAll, List.map_cons, List.map_nil]; omega
    · rw [DataW.weights, Try.underlying46] at hw
      simp only [List.map_cons, List.map_nil, DataW.weightsEach, List.all_append, Bool.and_eq_true, List.append_nil] at hw
      exact ⟨o0 (hw.1), o1 (hw.2)⟩
set_option maxRecDepth 100000 in
theorem contract (H : Type) (enc : TypeId × Value → H) (W : World) (base : Nat) (args : Array Value) (ds gs : List (DataW H)) (before : List MemPlace)
    (hval : ∀ (j : Nat) t v, Try.f9.params[j]? = some t → args[j]? = some v → Value.okWide Try.prog W .any base t v)
    (hW : DataW.Whole enc Try.prog Try.f9.params.toList Rows.codesPiecesSpec.vars false W args.toList ds gs before)
    (hsz0 : (DataW.weightsEach Try.prog (Try.f9.params.toList ++ (OpenSpec.ofChange Rows.codesPiecesSpec).bare.plain.varTypes Try.prog) (ds ++ gs)).all (· ≤ reachBytes) = true) :
    Calls Try.prog 9 args W fun e W' => ∃ v, e = .returned v ∧ Rows.codesPiecesSpec.post enc Try.prog Try.f9 false true false false W args v W' := by
  have hW' := hW
  obtain ⟨p, q, hA0, hV, rfl, hfz, hnd⟩ := hW
  have hA : DataW.TrodAll enc Try.prog W 0 (fun _ => true) true Try.f9.params.toList args.toList ds p := hA0
  rw [Try.params9] at hA hval hsz0
  obtain ⟨v0, vs0, d0, ds0, p0, q0, hargs, rfl, rfl, h0, r0⟩ := trodAll_cons hA
  obtain ⟨v1, vs1, d1, ds1, p1, q1, rfl, rfl, rfl, h1, r1⟩ := trodAll_cons r0
  obtain ⟨v2, vs2, d2, ds2, p2, q2, rfl, rfl, rfl, h2, r2⟩ := trodAll_cons r1
  obtain ⟨rfl, rfl, rfl⟩ := trodAll_nil r2
  obtain rfl : args = #[v0, v1, v2] := by cases args; simp_all
  obtain ⟨rfl, rfl⟩ := trodVars_none hV
  have hsz : (DataW.weightsEach Try.prog [31, 31, 41] [d0, d1, d2]).all (· ≤ reachBytes) = true := hsz0
  simp only [DataW.weightsEach, List.all_append, Bool.and_eq_true, List.append_nil] at hsz
  have k0 := h0
  have lt0 := trod_lt' k0
  obtain ⟨a0, A0, c0, rfl, hc0, hr0, m0, o0⟩ := arg_slice (d := (Kd.int .u8)) (m := fun x => ((x.map fun y => 1).sum + 1)) (ok := fun x => x.length * 1 ≤ 140737488351232 ∧ ∀ y, y ∈ x → (Lit.int .u8 y).wf = true) Try.underlying31 (opens_slice (d := (Kd.int .u8)) Try.underlying31 (opens_int Try.underlying5) (by kernel_rfl) (by kernel_rfl)) (hval 0 31 v0 rfl rfl) h0
  have k1 := h1
  have lt1 := trod_lt' k1
  obtain ⟨a1, A1, c1, rfl, hc1, hr1, m1, o1⟩ := arg_slice (d := (Kd.int .u8)) (m := fun x => ((x.map fun y => 1).sum + 1)) (ok := fun x => x.length * 1 ≤ 140737488351232 ∧ ∀ y, y ∈ x → (Lit.int .u8 y).wf = true) Try.underlying31 (opens_slice (d := (Kd.int .u8)) Try.underlying31 (opens_int Try.underlying5) (by kernel_rfl) (by kernel_rfl)) (hval 1 31 v1 rfl rfl) h1
  have k2 := h2
  have lt2 := trod_lt' k2
  obtain ⟨a2, A2, c2, rfl, hc2, hr2, m2, o2⟩ := arg_slice (d := k46) (m := fun x => ((x.map fun y => (1 + ((y.f1.map fun y => 1).sum + 1) + 1)).sum + 1)) (ok := fun x => x.length * 32 ≤ 140737488351232 ∧ ∀ y, y ∈ x → ((Lit.int .i64 y.f0).wf = true) ∧ (y.f1.length * 1 ≤ 140737488351232 ∧ ∀ z, z ∈ y.f1 → (Lit.int .u8 z).wf = true)) Try.underlying41 (opens_slice (d := k46) Try.underlying41 opens_46 (by kernel_rfl) (by kernel_rfl)) (hval 2 41 v2 rfl rfl) h2
  clear hA0
  refine (Sha.row_pieces a0 a1 a2 (o0 hsz.1) (o1 hsz.2.1) (o2 hsz.2.2) W A0 c0 A1 c1 A2 c2 hr0 hc0 hr1 hc1 hr2 hc2).mono fun e W' ⟨he, bel0⟩ => ?_
  have bel : Below W.heap.size W W' := bel0
  subst he
  exact ⟨_, rfl, _, _, _, [], _, [], hW', trodAll_mk1 (shut_bool Try.underlying4 _), (trodAll_cons_mk (Below.trod laidOut (by kernel_rfl) (of_decide_eq_true (by kernel_rfl)) k0 bel lt0) (trodAll_cons_mk (Below.trod laidOut (by kernel_rfl) (of_decide_eq_true (by kernel_rfl)) k1 bel lt1) (trodAll_cons_mk (Below.trod laidOut (by kernel_rfl) (of_decide_eq_true (by kernel_rfl)) k2 bel lt2) trodAll_mk0))), rfl, bel.frame _, fun h => by cases h⟩
noncomputable def laidWorld (os : Os) : World := World.holding Try.prog os ⟨#[], #[], []⟩
theorem laid_met (os : Os) : laidMet Try.prog Rows.codesPiecesRow.laid ((laidWorld os).forCall (fun _ _ => 0) ⟨#[], #[.slice none 0 0, .slice none 0 0, .slice none 0 0], []⟩).memory := laidMet_of_run' 8 (by kernel_rfl) (by kernel_rfl)
theorem reads (os : Os) {H : Type} (enc : TypeId × Value → H) : ∃ places, DataW.whole enc Try.prog ((laidWorld os).forCall (fun _ _ => 0) ⟨#[], #[.slice none 0 0, .slice none 0 0, .slice none 0 0], []⟩).memory Try.f9.params.toList Rows.codesPiecesSpec.vars false (#[.slice none 0 0, .slice none 0 0, .slice none 0 0] : Array Value).toList 8 = some ([.nil, .nil, .nil], [], places) := ⟨[], by kernel_rfl⟩
set_option maxRecDepth 100000 in
theorem lifted (os : Os) (started : os.Started) (H : Type) (enc : TypeId × Value → H) (F : Stop.Interp) :
    ReturnsInHanded {} Try.checked os 9 .any ((OpenSpec.ofChange Rows.codesPiecesSpec).preRow enc Try.prog Try.f9 Rows.codesPiecesRow.domain false Rows.codesPiecesRow.laid) (((OpenSpec.ofChange Rows.codesPiecesSpec).at F).post enc Try.prog Try.f9 false true false false) := by
  obtain ⟨places, hx⟩ := reads os enc
  refine returnsInHanded_of_row (C := Try.checked) (s := (OpenSpec.ofChange Rows.codesPiecesSpec)) own started (by kernel_rfl) Try.func9
    (witness_row_at (enc := enc) (C := Try.checked) false (laidWorld os) #[.slice none 0 0, .slice none 0 0, .slice none 0 0] rfl (by kernel_rfl) (by kernel_rfl) (by kernel_rfl)
      (OpenSpec.preRow_of_cond 8 hx (by kernel_rfl) (fun k hk => by cases hk) (by kernel_rfl) (laid_met os))) ?_
  intro W base args ds gs before hval hW _ hcond hsz hlaid0 _ _
  exact contract H enc W base args ds gs before hval hW hsz
theorem said : Rows.CodesPiecesSaid :=
  OpenClaim.holds_of_cond 9 Try.f9 rfl rfl rfl rfl rfl rfl rfl ⟨rfl, rfl, rfl, rfl, rfl⟩ rfl rfl rfl rfl rfl (by kernel_rfl) Try.func9 (by kernel_rfl)
    (of_decide_eq_true (by kernel_rfl)) (by unfold Func.isWrapper; first | (rw [if_pos (by decide +kernel)]; kernel_rfl) | (rw [if_neg (by decide +kernel)]; exact ⟨rfl, rfl⟩))
    (fun os started H enc _ F => by rw [OpenClaim.pre_eq_preRow]; exact lifted os started H enc F)
end Go.Proofs.Ytaeipffenlkjpaa.codesPiecesRow
namespace Go.Proofs.Ytaeipffenlkjpaa
/-- The statement, under a short name, for the claim. -/
theorem codesPieces_holds : Rows.CodesPiecesSaid := codesPiecesRow.said
#print axioms codesPieces_holds
end Go.Proofs.Ytaeipffenlkjpaa
