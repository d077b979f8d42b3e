/-
  THE ROW OF THE LAW wicket/wicketlaw03.FormWithins (said), out of its pure law and the walk of its function. Written by rowgen.py, a program of this session.
-/
import Derived.Test.YtgfnjdpbahecdaaRows
import Derived.Test.YtgfnjdpbahecdaaPFormWithinsx
import Derived.Test.YtgfnjdpbahecdaaPureFormWithins
import Derived.Test.YtgfnjdpbahecdaaOpen
import Derived.WalkKit
import Derived.ProofKit
import Derived.OpenShut
import Derived.Deep.DeepHandedRow
import Derived.Lib.LaidTab
import Derived.Below
import Derived.SizedLaws
namespace Go.Proofs.Ytgfnjdpbahecdaa.formWithinsRow
open Go.ChangeShapes Go.WideShapes Go.ChangeAt Go.RowKit Go.Proofs.Ytgfnjdpbahecdaa.Open Go.Proofs.YtgfnjdpbahecdaaW.PrintWords Go.Proofs.Ytgfnjdpbahecdaa.PFormWithins
set_option linter.unusedVariables false
theorem own : ownKnob Try.prog.godebug = none := by kernel_rfl
theorem laidOut : laidOutB Try.prog = true := by kernel_rfl
set_option maxRecDepth 100000 in
theorem contract (H : Type) (enc : TypeId × Value → H) (W : World) (base : Nat) (args : Array Value) (ds gs : List (DataW H)) (before : List MemPlace)
    (hval : ∀ (j : Nat) t v, Try.f3.params[j]? = some t → args[j]? = some v → Value.okWide Try.prog W .any base t v)
    (hW : DataW.Whole enc Try.prog Try.f3.params.toList Rows.formWithinsSpec.vars false W args.toList ds gs before)
    (hsz0 : (DataW.weightsEach Try.prog (Try.f3.params.toList ++ (OpenSpec.ofChange Rows.formWithinsSpec).bare.plain.varTypes Try.prog) (ds ++ gs)).all (· ≤ reachBytes) = true) :
    Calls Try.prog 3 args W fun e W' => ∃ v, e = .returned v ∧ Rows.formWithinsSpec.post enc Try.prog Try.f3 false true false false W args v W' := by
  have hW' := hW
  obtain ⟨p, q, hA0, hV, rfl, hfz, hnd⟩ := hW
  have hA : DataW.TrodAll enc Try.prog W 0 (fun _ => true) true Try.f3.params.toList args.toList ds p := hA0
  rw [Try.params3] at hA hval hsz0
  obtain ⟨v0, vs0, d0, ds0, p0, q0, hargs, rfl, rfl, h0, r0⟩ := trodAll_cons hA
  obtain ⟨v1, vs1, d1, ds1, p1, q1, rfl, rfl, rfl, h1, r1⟩ := trodAll_cons r0
  obtain ⟨rfl, rfl, rfl⟩ := trodAll_nil r1
  obtain rfl : args = #[v0, v1] := by cases args; simp_all
  obtain ⟨rfl, rfl⟩ := trodVars_none hV
  have hsz : (DataW.weightsEach Try.prog [22, 22] [d0, d1]).all (· ≤ reachBytes) = true := hsz0
  simp only [DataW.weightsEach, List.all_append, Bool.and_eq_true, List.append_nil] at hsz
  have k0 := h0
  have lt0 := trod_lt' k0
  obtain ⟨a0, A0, c0, rfl, hc0, hr0, m0, o0⟩ := arg_slice (d := Kd.string) (m := fun x => ((x.map fun y => (y.size + 1)).sum + 1)) (ok := fun x => x.length * 16 ≤ 140737488351232 ∧ ∀ y, y ∈ x → y.size ≤ 140737488351232) Try.underlying22 (opens_slice (d := Kd.string) Try.underlying22 (opens_string Try.underlying9) (by kernel_rfl) (by kernel_rfl)) (hval 0 22 v0 rfl rfl) h0
  have k1 := h1
  have lt1 := trod_lt' k1
  obtain ⟨a1, A1, c1, rfl, hc1, hr1, m1, o1⟩ := arg_slice (d := Kd.string) (m := fun x => ((x.map fun y => (y.size + 1)).sum + 1)) (ok := fun x => x.length * 16 ≤ 140737488351232 ∧ ∀ y, y ∈ x → y.size ≤ 140737488351232) Try.underlying22 (opens_slice (d := Kd.string) Try.underlying22 (opens_string Try.underlying9) (by kernel_rfl) (by kernel_rfl)) (hval 1 22 v1 rfl rfl) h1
  clear hA0
  obtain ⟨kk, hp⟩ := Pure.FormWithins a0 a1 (o0 hsz.1) (o1 hsz.2)
  refine (wicketlaw03_FormWithins.calls kk A0 c0 a0 A1 c1 a1 true W hr0 hc0 hr1 hc1 hp).mono fun e W' ⟨he, bel0⟩ => ?_
  have bel : Below W.heap.size W W' := bel0
  subst he
  exact ⟨_, rfl, _, _, _, [], _, [], hW', trodAll_mk1 (shut_bool Try.underlying4 _), (trodAll_cons_mk (Below.trod laidOut (by kernel_rfl) (of_decide_eq_true (by kernel_rfl)) k0 bel lt0) (trodAll_cons_mk (Below.trod laidOut (by kernel_rfl) (of_decide_eq_true (by kernel_rfl)) k1 bel lt1) trodAll_mk0)), rfl, bel.frame _, fun h => by cases h⟩
noncomputable def laidWorld (os : Os) : World := World.holding Try.prog os ⟨#[], #[], []⟩
theorem laid_met (os : Os) : laidMet Try.prog Rows.formWithinsRow.laid ((laidWorld os).forCall (fun _ _ => 0) ⟨#[], #[.slice none 0 0, .slice none 0 0], []⟩).memory := laidMet_of_run' 8 (by kernel_rfl) (by kernel_rfl)
theorem reads (os : Os) {H : Type} (enc : TypeId × Value → H) : ∃ places, DataW.whole enc Try.prog ((laidWorld os).forCall (fun _ _ => 0) ⟨#[], #[.slice none 0 0, .slice none 0 0], []⟩).memory Try.f3.params.toList Rows.formWithinsSpec.vars false (#[.slice none 0 0, .slice none 0 0] : Array Value).toList 8 = some ([.nil, .nil], [], places) := ⟨[], by kernel_rfl⟩
set_option maxRecDepth 100000 in
theorem lifted (os : Os) (started : os.Started) (H : Type) (enc : TypeId × Value → H) (F : Stop.Interp) :
    ReturnsInHanded {} Try.checked os 3 .any ((OpenSpec.ofChange Rows.formWithinsSpec).preRow enc Try.prog Try.f3 Rows.formWithinsRow.domain false Rows.formWithinsRow.laid) (((OpenSpec.ofChange Rows.formWithinsSpec).at F).post enc Try.prog Try.f3 false true false false) := by
  obtain ⟨places, hx⟩ := reads os enc
  refine returnsInHanded_of_row (C := Try.checked) (s := (OpenSpec.ofChange Rows.formWithinsSpec)) own started (by kernel_rfl) Try.func3
    (witness_row_at (enc := enc) (C := Try.checked) false (laidWorld os) #[.slice none 0 0, .slice none 0 0] rfl (by kernel_rfl) (by kernel_rfl) (by kernel_rfl)
      (OpenSpec.preRow_of_cond 8 hx (by kernel_rfl) (fun k hk => by cases hk) (by kernel_rfl) (laid_met os))) ?_
  intro W base args ds gs before hval hW _ hcond hsz _ _ _
  exact contract H enc W base args ds gs before hval hW hsz
theorem said : Rows.FormWithinsSaid :=
  OpenClaim.holds_of_cond 3 Try.f3 rfl rfl rfl rfl rfl rfl rfl ⟨rfl, rfl, rfl, rfl, rfl⟩ rfl rfl rfl rfl rfl (by kernel_rfl) Try.func3 (by kernel_rfl)
    (of_decide_eq_true (by kernel_rfl)) (by unfold Func.isWrapper; first | (rw [if_pos (by decide +kernel)]; kernel_rfl) | (rw [if_neg (by decide +kernel)]; exact ⟨rfl, rfl⟩))
    (fun os started H enc _ F => by rw [OpenClaim.pre_eq_preRow]; exact lifted os started H enc F)
end Go.Proofs.Ytgfnjdpbahecdaa.formWithinsRow
namespace Go.Proofs.Ytgfnjdpbahecdaa
/-- The statement, under a short name, for the claim. -/
theorem formWithins_holds : Rows.FormWithinsSaid := formWithinsRow.said
#print axioms formWithins_holds
end Go.Proofs.Ytgfnjdpbahecdaa
