/-
  THE ROW OF THE LAW wicket/wicketlaw03.FormPrints (upto), out of its pure law and the walk of its function. Written by rowgen.py, a program of this session.
-/
import Derived.Test.YtgfnjdpbahecdaaRows
import Derived.Test.YtgfnjdpbahecdaaPureFormPrints
import Derived.Test.YtgfnjdpbahecdaaOpen
import Derived.WalkKit
import Derived.ProofKit
import Derived.OpenShut
import Derived.Deep.DeepHandedRow
import Derived.Lib.LaidTab
import Derived.Below
import Derived.SizedLaws
namespace Go.Proofs.Ytgfnjdpbahecdaa.formPrintsRowUpto
open Go.ChangeShapes Go.WideShapes Go.ChangeAt Go.RowKit Go.Proofs.Ytgfnjdpbahecdaa.Open Go.Proofs.YtgfnjdpbahecdaaW.PrintWords Go.Proofs.Ytgfnjdpbahecdaa.PFp
set_option linter.unusedVariables false
set_option linter.unusedSimpArgs false
theorem own : ownKnob Try.prog.godebug = none := by kernel_rfl
theorem laidOut : laidOutB Try.prog = true := by kernel_rfl
set_option maxRecDepth 100000 in
theorem opens_37 : Opens Try.prog 37 k37 (fun x => ((x.f0.size + 1) + (x.f1.size + 1) + 1)) (fun x => (x.f0.size ≤ 140737488351232) ∧ (x.f1.size ≤ 140737488351232)) := by
  intro H enc w base spare held fuel cs x h
  obtain ⟨xs, n, _, rfl, hl, hlen, hf⟩ := DataW.trod_struct Try.underlying37 h
  have hl' : cs.length = 2 := hl.trans (by kernel_rfl)
  match xs, hlen with
  | [y0, y1], _ =>
    have g0 : DataW.trod enc Try.prog w base spare held n 9 ((cs.drop 0).take 1) = some y0 := hf 0 _ rfl
    obtain ⟨a0, e0, m0, o0⟩ := (opens_string Try.underlying9) H enc w base spare held n _ y0 g0
    have g1 : DataW.trod enc Try.prog w base spare held n 9 ((cs.drop 1).take 1) = some y1 := hf 1 _ rfl
    obtain ⟨a1, e1, m1, o1⟩ := (opens_string Try.underlying9) H enc w base spare held n _ y1 g1
    have m0' : (a0.size + 1) ≤ Rows.uptoBulk y0.1 := m0
    have m1' : (a1.size + 1) ≤ Rows.uptoBulk y1.1 := m1
    have hcut : cs = (cs.drop 0).take 1 ++ ((cs.drop 1).take 1) := by
      have z1 : (cs.drop 1).take 1 = cs.drop 1 := List.take_of_length_le (by simp; omega)
      have z0 : (cs.drop 0).take 1 ++ cs.drop 1 = cs.drop 0 := by rw [List.drop_zero]; exact List.take_append_drop _ _
      rw [z1, z0]
      simp
    refine ⟨⟨a0, a1⟩, ⟨_, _, hcut, e0, e1⟩, ?_, fun hw => ?_⟩
    · simp only [Rows.uptoBulk, Rows.uptoBulkAll, List.map_cons, List.map_nil]; omega
    · rw [DataW.weights, Try.underlying37] at hw
      simp only [List.map_cons, List.map_nil, DataW.weightsEach, List.all_append, Bool.and_eq_true, List.append_nil] at hw
      exact ⟨o0 (hw.1), o1 (hw.2)⟩
set_option maxRecDepth 100000 in
theorem contract (H : Type) (enc : TypeId × Value → H) (W : World) (base : Nat) (args : Array Value) (ds gs : List (DataW H)) (before : List MemPlace)
    (hval : ∀ (j : Nat) t v, Try.f4.params[j]? = some t → args[j]? = some v → Value.okWide Try.prog W .any base t v)
    (hW : DataW.Whole enc Try.prog Try.f4.params.toList Rows.formPrintsSpec.vars false W args.toList ds gs before) (hk : Rows.uptoSmall H (ds ++ gs) = true)
    (hsz0 : (DataW.weightsEach Try.prog (Try.f4.params.toList ++ (Rows.OpenSpec.upto Rows.formPrintsSpec).bare.plain.varTypes Try.prog) (ds ++ gs)).all (· ≤ reachBytes) = true) :
    Calls Try.prog 4 args W fun e W' => ∃ v, e = .returned v ∧ Rows.formPrintsSpec.post enc Try.prog Try.f4 false true false false W args v W' := by
  have hW' := hW
  obtain ⟨p, q, hA0, hV, rfl, hfz, hnd⟩ := hW
  have hA : DataW.TrodAll enc Try.prog W 0 (fun _ => true) true Try.f4.params.toList args.toList ds p := hA0
  rw [Try.params4] at hA hval hsz0
  obtain ⟨v0, vs0, d0, ds0, p0, q0, hargs, rfl, rfl, h0, r0⟩ := trodAll_cons hA
  obtain ⟨rfl, rfl, rfl⟩ := trodAll_nil r0
  obtain rfl : args = #[v0] := by cases args; simp_all
  obtain ⟨rfl, rfl⟩ := trodVars_none hV
  have hsz : (DataW.weightsEach Try.prog [24] [d0]).all (· ≤ reachBytes) = true := hsz0
  simp only [DataW.weightsEach, List.all_append, Bool.and_eq_true, List.append_nil] at hsz
  have k0 := h0
  have lt0 := trod_lt' k0
  obtain ⟨a0, A0, c0, rfl, hc0, hr0, m0, o0⟩ := arg_slice (d := k37) (m := fun x => ((x.map fun y => ((y.f0.size + 1) + (y.f1.size + 1) + 1)).sum + 1)) (ok := fun x => x.length * 32 ≤ 140737488351232 ∧ ∀ y, y ∈ x → (y.f0.size ≤ 140737488351232) ∧ (y.f1.size ≤ 140737488351232)) Try.underlying24 (opens_slice (d := k37) Try.underlying24 opens_37 (by kernel_rfl) (by kernel_rfl)) (hval 0 24 v0 rfl rfl) h0
  have hk1 : Rows.uptoBulkAll ([d0] : List (DataW H)) ≤ 1048576 := of_decide_eq_true hk
  simp only [Rows.uptoBulkAll, Nat.add_zero] at hk1
  have hbulk : ((a0.map fun y => ((y.f0.size + 1) + (y.f1.size + 1) + 1)).sum + 1) ≤ 1048576 := by have := m0; omega
  clear hA0
  obtain ⟨kk, hp⟩ := Pure.FormPrints a0 (o0 hsz) hbulk
  refine (wicketlaw03_FormPrints.calls kk A0 c0 a0 true W hr0 hc0 hp).mono fun e W' ⟨he, bel0⟩ => ?_
  have bel : Below W.heap.size W W' := bel0
  subst he
  exact ⟨_, rfl, _, _, _, [], _, [], hW', trodAll_mk1 (shut_bool Try.underlying4 _), (trodAll_cons_mk (Below.trod laidOut (by kernel_rfl) (of_decide_eq_true (by kernel_rfl)) k0 bel lt0) trodAll_mk0), rfl, bel.frame _, fun h => by cases h⟩
noncomputable def laidWorld (os : Os) : World := World.holding Try.prog os ⟨#[], #[], []⟩
theorem laid_met (os : Os) : laidMet Try.prog Rows.formPrintsUptoRow.laid ((laidWorld os).forCall (fun _ _ => 0) ⟨#[], #[.slice none 0 0], []⟩).memory := laidMet_of_run' 8 (by kernel_rfl) (by kernel_rfl)
theorem reads (os : Os) {H : Type} (enc : TypeId × Value → H) : ∃ places, DataW.whole enc Try.prog ((laidWorld os).forCall (fun _ _ => 0) ⟨#[], #[.slice none 0 0], []⟩).memory Try.f4.params.toList Rows.formPrintsSpec.vars false (#[.slice none 0 0] : Array Value).toList 8 = some ([.nil], [], places) := ⟨[], by kernel_rfl⟩
set_option maxRecDepth 100000 in
theorem lifted (os : Os) (started : os.Started) (H : Type) (enc : TypeId × Value → H) (F : Stop.Interp) :
    ReturnsInHanded {} Try.checked os 4 .any ((Rows.OpenSpec.upto Rows.formPrintsSpec).preRow enc Try.prog Try.f4 Rows.formPrintsUptoRow.domain false Rows.formPrintsUptoRow.laid) (((Rows.OpenSpec.upto Rows.formPrintsSpec).at F).post enc Try.prog Try.f4 false true false false) := by
  obtain ⟨places, hx⟩ := reads os enc
  refine returnsInHanded_of_row (C := Try.checked) (s := (Rows.OpenSpec.upto Rows.formPrintsSpec)) own started (by kernel_rfl) Try.func4
    (witness_row_at (enc := enc) (C := Try.checked) false (laidWorld os) #[.slice none 0 0] rfl (by kernel_rfl) (by kernel_rfl) (by kernel_rfl)
      (OpenSpec.preRow_of_cond 8 hx (by kernel_rfl) (fun k hk => by cases hk; kernel_rfl) (by kernel_rfl) (laid_met os))) ?_
  intro W base args ds gs before hval hW _ hcond hsz _ _ _
  exact contract H enc W base args ds gs before hval hW (hcond _ rfl) hsz
theorem said : Rows.FormPrintsUptoSaid :=
  OpenClaim.holds_of_cond 4 Try.f4 rfl rfl rfl rfl rfl rfl rfl ⟨rfl, rfl, rfl, rfl, rfl⟩ rfl rfl rfl rfl rfl (by kernel_rfl) Try.func4 (by kernel_rfl)
    (of_decide_eq_true (by kernel_rfl)) (by unfold Func.isWrapper; first | (rw [if_pos (by decide +kernel)]; kernel_rfl) | (rw [if_neg (by decide +kernel)]; exact ⟨rfl, rfl⟩))
    (fun os started H enc _ F => by rw [OpenClaim.pre_eq_preRow]; exact lifted os started H enc F)
end Go.Proofs.Ytgfnjdpbahecdaa.formPrintsRowUpto
namespace Go.Proofs.Ytgfnjdpbahecdaa
/-- The statement, under a short name, for the claim. -/
theorem formPrints_upto : Rows.FormPrintsUptoSaid := formPrintsRowUpto.said
#print axioms formPrints_upto
end Go.Proofs.Ytgfnjdpbahecdaa
