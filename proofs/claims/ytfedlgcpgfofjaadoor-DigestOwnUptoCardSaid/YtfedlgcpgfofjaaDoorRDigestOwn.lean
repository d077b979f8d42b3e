/-
  THE ROW OF THE LAW wicket/wicketlaw02.DigestOwn (upto), out of its pure law and the walk of its function. Written by rowgen.py, a program of this session.
-/
import Derived.Test.YtfedlgcpgfofjaaDoorCards
import Derived.Test.YtfedlgcpgfofjaaDoorTie
import Derived.Test.YtfedlgcpgfofjaaDoorDOwn
import Derived.Test.YtfedlgcpgfofjaaDoorOpen
import Derived.WalkKit
import Derived.ProofKit
import Derived.OpenShut
import Derived.Deep.DeepHandedRow
import Derived.Lib.LaidTab
import Derived.Below
import Derived.SizedLaws
namespace Go.Proofs.YtfedlgcpgfofjaaDoor.digestOwnRowUpto
open Go.ChangeShapes Go.WideShapes Go.ChangeAt Go.RowKit Go.Proofs.YtfedlgcpgfofjaaDoor.Open Go.Proofs.YtfedlgcpgfofjaaDoorW.PrintWords Go.Proofs.YtfedlgcpgfofjaaDoor.Sha
set_option linter.unusedVariables false
set_option linter.unusedSimpArgs false
theorem own : ownKnob Tryd.prog.godebug = none := by kernel_rfl
theorem laidOut : laidOutB Tryd.prog = true := by kernel_rfl
set_option maxRecDepth 100000 in
theorem contract (H : Type) (enc : TypeId × Value → H) (W : World) (base : Nat) (args : Array Value) (ds gs : List (DataW H)) (before : List MemPlace)
    (hval : ∀ (j : Nat) t v, Tryd.f6.params[j]? = some t → args[j]? = some v → Value.okWide Tryd.prog W .any base t v)
    (hW : DataW.Whole enc Tryd.prog Tryd.f6.params.toList Rows.digestOwnSpec.vars false W args.toList ds gs before) (hk : Rows.uptoSmall H (ds ++ gs) = true) (hlaid : laidMet Tryd.prog Rows.digestOwnUptoRow.laid W)
    (hsz0 : (DataW.weightsEach Tryd.prog (Tryd.f6.params.toList ++ (Rows.OpenSpec.upto Rows.digestOwnSpec).bare.plain.varTypes Tryd.prog) (ds ++ gs)).all (· ≤ reachBytes) = true) :
    Calls Tryd.prog 6 args W fun e W' => ∃ v, e = .returned v ∧ Rows.digestOwnSpec.post enc Tryd.prog Tryd.f6 false true false false W args v W' := by
  have hW' := hW
  obtain ⟨p, q, hA0, hV, rfl, hfz, hnd⟩ := hW
  have hA : DataW.TrodAll enc Tryd.prog W 0 (fun _ => true) true Tryd.f6.params.toList args.toList ds p := hA0
  rw [Tryd.params6] at hA hval hsz0
  obtain ⟨v0, vs0, d0, ds0, p0, q0, hargs, rfl, rfl, h0, r0⟩ := trodAll_cons hA
  obtain ⟨v1, vs1, d1, ds1, p1, q1, rfl, rfl, rfl, h1, r1⟩ := trodAll_cons r0
  obtain ⟨rfl, rfl, rfl⟩ := trodAll_nil r1
  obtain rfl : args = #[v0, v1] := by cases args; simp_all
  obtain ⟨rfl, rfl⟩ := trodVars_none hV
  have hsz : (DataW.weightsEach Tryd.prog [22, 9] [d0, d1]).all (· ≤ reachBytes) = true := hsz0
  simp only [DataW.weightsEach, List.all_append, Bool.and_eq_true, List.append_nil] at hsz
  have k0 := h0
  have lt0 := trod_lt' k0
  obtain ⟨a0, A0, c0, rfl, hc0, hr0, m0, o0⟩ := arg_slice (d := (Kd.int .u8)) (m := fun x => ((x.map fun y => 1).sum + 1)) (ok := fun x => x.length * 1 ≤ 140737488351232 ∧ ∀ y, y ∈ x → (Lit.int .u8 y).wf = true) Tryd.underlying22 (opens_slice (d := (Kd.int .u8)) Tryd.underlying22 (opens_int Tryd.underlying5) (by kernel_rfl) (by kernel_rfl)) (hval 0 22 v0 rfl rfl) h0
  have k1 := h1
  have lt1 := trod_lt' k1
  obtain ⟨a1, rfl, m1, o1⟩ := arg_string Tryd.underlying9 (hval 1 9 v1 rfl rfl) h1
  have hk1 : Rows.uptoBulkAll ([d0, d1] : List (DataW H)) ≤ 1048576 := of_decide_eq_true hk
  simp only [Rows.uptoBulkAll, Nat.add_zero] at hk1
  have hbulk : ((a0.map fun y => 1).sum + 1) + (a1.size + 1) ≤ 1048576 := by have := m0; have := m1; omega
  clear hA0
  have hT := Sha.tabs_of_laid hlaid
  refine (Sha.row_own a0 a1 (o0 hsz.1) (o1 hsz.2) hbulk W A0 c0  hr0 hc0 hT).mono fun e W' ⟨he, bel0⟩ => ?_
  have bel : Below W.heap.size W W' := bel0
  subst he
  exact ⟨_, rfl, _, _, _, [], _, [], hW', trodAll_mk1 (shut_bool Tryd.underlying4 _), (trodAll_cons_mk (Below.trod laidOut (by kernel_rfl) (of_decide_eq_true (by kernel_rfl)) k0 bel lt0) (trodAll_cons_mk (Below.trod laidOut (by kernel_rfl) (of_decide_eq_true (by kernel_rfl)) k1 bel lt1) trodAll_mk0)), rfl, bel.frame _, fun h => by cases h⟩
mutual
def cellsOf : DataW Unit → List Value
  | .lit (.int k n) => [.int k n]
  | .agg l => cellsOfAll l
  | _ => []
def cellsOfAll : List (DataW Unit) → List Value
  | [] => []
  | d :: l => cellsOf d ++ cellsOfAll l
end
noncomputable def laidWorld (os : Os) : World := { World.holding Tryd.prog os ⟨#[], #[], []⟩ with heap := ((((World.holding Tryd.prog os ⟨#[], #[], []⟩).heap.modify 1 fun | .cells _ t frozen => .cells (cellsOf Rows.laid_wicket_digest_roots).toArray t frozen | x => x).modify 0 fun | .cells _ t frozen => .cells (cellsOf Rows.laid_wicket_digest_first).toArray t frozen | x => x).modify 2 fun | .cells _ t frozen => .cells (cellsOf Rows.laid_wicket_wicketref02_roots).toArray t frozen | x => x) }
theorem laid_met (os : Os) : laidMet Tryd.prog Rows.digestOwnUptoRow.laid ((laidWorld os).forCall (fun _ _ => 0) ⟨#[], #[.slice none 0 0, .string ByteArray.empty], []⟩).memory := laidMet_of_run' 8 (by kernel_rfl) (by kernel_rfl)
theorem reads (os : Os) {H : Type} (enc : TypeId × Value → H) : ∃ places, DataW.whole enc Tryd.prog ((laidWorld os).forCall (fun _ _ => 0) ⟨#[], #[.slice none 0 0, .string ByteArray.empty], []⟩).memory Tryd.f6.params.toList Rows.digestOwnSpec.vars false (#[.slice none 0 0, .string ByteArray.empty] : Array Value).toList 8 = some ([.nil, .lit (.string [])], [], places) := ⟨[], by kernel_rfl⟩
set_option maxRecDepth 100000 in
theorem lifted (os : Os) (started : os.Started) (H : Type) (enc : TypeId × Value → H) (F : Stop.Interp) :
    ReturnsInHanded {} Tryd.checked os 6 .any ((Rows.OpenSpec.upto Rows.digestOwnSpec).preRow enc Tryd.prog Tryd.f6 Rows.digestOwnUptoRow.domain false Rows.digestOwnUptoRow.laid) (((Rows.OpenSpec.upto Rows.digestOwnSpec).at F).post enc Tryd.prog Tryd.f6 false true false false) := by
  obtain ⟨places, hx⟩ := reads os enc
  refine returnsInHanded_of_row (C := Tryd.checked) (s := (Rows.OpenSpec.upto Rows.digestOwnSpec)) own started (by kernel_rfl) Tryd.func6
    (witness_row_at (enc := enc) (C := Tryd.checked) false (laidWorld os) #[.slice none 0 0, .string ByteArray.empty] rfl (by kernel_rfl) (by kernel_rfl) (by kernel_rfl)
      (OpenSpec.preRow_of_cond 8 hx (by kernel_rfl) (fun k hk => by cases hk; kernel_rfl) (by kernel_rfl) (laid_met os))) ?_
  intro W base args ds gs before hval hW _ hcond hsz hlaid0 _ _
  exact contract H enc W base args ds gs before hval hW (hcond _ rfl) hlaid0 hsz
theorem said : Rows.DigestOwnUptoSaid :=
  OpenClaim.holds_of_cond 6 Tryd.f6 rfl rfl rfl rfl rfl rfl rfl ⟨rfl, rfl, rfl, rfl, rfl⟩ rfl rfl rfl rfl rfl (by kernel_rfl) Tryd.func6 (by kernel_rfl)
    (of_decide_eq_true (by kernel_rfl)) (by unfold Func.isWrapper; first | (rw [if_pos (by decide +kernel)]; kernel_rfl) | (rw [if_neg (by decide +kernel)]; exact ⟨rfl, rfl⟩))
    (fun os started H enc _ F => by rw [OpenClaim.pre_eq_preRow]; exact lifted os started H enc F)
theorem plain (f : FuncId) (fn : Func) (hf : Tryd.pinned.checked.prog.funcNamed "wicket/wicketlaw02.DigestOwn" = some f) (hfn : Tryd.pinned.checked.prog.funcs[f]? = some fn) :
    false = Tryd.pinned.checked.prog.looks [] ∧ ∀ (j : Nat) t, fn.params[j]? = some t → Tryd.pinned.checked.prog.wantsStandIn t = false := by
  obtain rfl : f = 6 := Option.some.inj ((show Tryd.prog.funcNamed "wicket/wicketlaw02.DigestOwn" = some 6 by kernel_rfl).symm.trans hf) |>.symm
  obtain rfl : fn = Tryd.f6 := (Option.some.inj (Tryd.func6.symm.trans hfn)).symm
  refine ⟨by kernel_rfl, fun j t ht => ?_⟩
  rw [Tryd.params6] at ht
  match j, ht with
  | 0, ht =>
    obtain rfl : 22 = t := Option.some.inj ht
    exact (show Tryd.prog.wantsStandIn 22 = false by kernel_rfl)
  | 1, ht =>
    obtain rfl : 9 = t := Option.some.inj ht
    exact (show Tryd.prog.wantsStandIn 9 = false by kernel_rfl)
  | n + 2, ht => simp at ht
theorem card : Rows.DigestOwnUptoCardSaid :=
  Claim7.holds_tied_plain_at .later [] _ _ _ _ said (fun _ h => by cases h) (by kernel_rfl) (fun _ h => by cases h) digestOwnUpto_row_tie rfl ⟨rfl, rfl⟩ (by kernel_rfl) rfl plain (by kernel_rfl)
end Go.Proofs.YtfedlgcpgfofjaaDoor.digestOwnRowUpto
namespace Go.Proofs.YtfedlgcpgfofjaaDoor
/-- The statement, under a short name, for the claim. -/
theorem digestOwn_upto : Rows.DigestOwnUptoCardSaid := digestOwnRowUpto.card
#print axioms digestOwn_upto
end Go.Proofs.YtfedlgcpgfofjaaDoor
