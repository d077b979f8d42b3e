/-
  THE ROW OF THE LAW wicket/wicketlaw02.DigestPlays (upto), out of its pure law and the walk of its function. Written by rowgen.py, a program of this session.
-/
import Derived.Test.YtfedlgcpgfofjaaDoorCards
import Derived.Test.YtfedlgcpgfofjaaDoorTie
import Derived.Test.YtfedlgcpgfofjaaDoorDPlays
import Derived.Test.YtfedlgcpgfofjaaDoorOpen
import Derived.WalkKit
import Derived.ProofKit
import Derived.OpenShut
import Derived.Deep.DeepHandedRow
import Derived.Lib.LaidTab
import Derived.Below
import Derived.SizedLaws
namespace Go.Proofs.YtfedlgcpgfofjaaDoor.digestPlaysRowUpto
open Go.ChangeShapes Go.WideShapes Go.ChangeAt Go.RowKit Go.Proofs.YtfedlgcpgfofjaaDoor.Open Go.Proofs.YtfedlgcpgfofjaaDoorW.PrintWords Go.Proofs.YtfedlgcpgfofjaaDoor.Sha
set_option linter.unusedVariables false
set_option linter.unusedSimpArgs false
theorem own : ownKnob Tryd.prog.godebug = none := by kernel_rfl
theorem laidOut : laidOutB Tryd.prog = true := by kernel_rfl
set_option maxRecDepth 100000 in
theorem opens_64 : Opens Tryd.prog 64 k64 (fun x => (1 + 1 + 1 + ((x.f3.map fun y => 1).sum + 1) + 1)) (fun x => ((Lit.int .i64 x.f0).wf = true) ∧ ((Lit.int .i64 x.f1).wf = true) ∧ ((Lit.int .i64 x.f2).wf = true) ∧ (x.f3.length * 1 ≤ 140737488351232 ∧ ∀ y, y ∈ x.f3 → (Lit.int .u8 y).wf = true)) := by
  intro H enc w base spare held fuel cs x h
  obtain ⟨xs, n, _, rfl, hl, hlen, hf⟩ := DataW.trod_struct Tryd.underlying64 h
  have hl' : cs.length = 4 := hl.trans (by kernel_rfl)
  match xs, hlen with
  | [y0, y1, y2, y3], _ =>
    have g0 : DataW.trod enc Tryd.prog w base spare held n 3 ((cs.drop 0).take 1) = some y0 := hf 0 _ rfl
    obtain ⟨a0, e0, m0, o0⟩ := (opens_int Tryd.underlying3) H enc w base spare held n _ y0 g0
    have g1 : DataW.trod enc Tryd.prog w base spare held n 3 ((cs.drop 1).take 1) = some y1 := hf 1 _ rfl
    obtain ⟨a1, e1, m1, o1⟩ := (opens_int Tryd.underlying3) H enc w base spare held n _ y1 g1
    have g2 : DataW.trod enc Tryd.prog w base spare held n 3 ((cs.drop 2).take 1) = some y2 := hf 2 _ rfl
    obtain ⟨a2, e2, m2, o2⟩ := (opens_int Tryd.underlying3) H enc w base spare held n _ y2 g2
    have g3 : DataW.trod enc Tryd.prog w base spare held n 22 ((cs.drop 3).take 1) = some y3 := hf 3 _ rfl
    obtain ⟨a3, e3, m3, o3⟩ := (opens_slice (d := (Kd.int .u8)) Tryd.underlying22 (opens_int Tryd.underlying5) (by kernel_rfl) (by kernel_rfl)) H enc w base spare held n _ y3 g3
    have m0' : 1 ≤ Rows.uptoBulk y0.1 := m0
    have m1' : 1 ≤ Rows.uptoBulk y1.1 := m1
    have m2' : 1 ≤ Rows.uptoBulk y2.1 := m2
    have m3' : ((a3.map fun y => 1).sum + 1) ≤ Rows.uptoBulk y3.1 := m3
    have hcut : cs = (cs.drop 0).take 1 ++ ((cs.drop 1).take 1 ++ ((cs.drop 2).take 1 ++ ((cs.drop 3).take 1))) := by
      have z3 : (cs.drop 3).take 1 = cs.drop 3 := List.take_of_length_le (by simp; omega)
      have z0 : (cs.drop 0).take 1 ++ cs.drop 1 = cs.drop 0 := by rw [List.drop_zero]; exact List.take_append_drop _ _
      have z1 : (cs.drop 1).take 1 ++ cs.drop 2 = cs.drop 1 := by rw [← List.drop_drop (i := 1) (j := 1)]; exact List.take_append_drop _ _
      have z2 : (cs.drop 2).take 1 ++ cs.drop 3 = cs.drop 2 := by rw [← List.drop_drop (i := 1) (j := 2)]; exact List.take_append_drop _ _
      rw [z3, z2, z1, z0]
      simp
    refine ⟨⟨a0, a1, a2, a3⟩, ⟨_, _, hcut, e0, ⟨_, _, rfl, e1, ⟨_, _, rfl, e2, e3⟩⟩⟩, ?_, fun hw => ?_⟩
    · simp only [Rows.uptoBulk, Rows.uptoBulkAll, List.map_cons, List.map_nil]; omega
    · rw [DataW.weights, Tryd.underlying64] at hw
      simp only [List.map_cons, List.map_nil, DataW.weightsEach, List.all_append, Bool.and_eq_true, List.append_nil] at hw
      exact ⟨o0 (hw.1), o1 (hw.2.1), o2 (hw.2.2.1), o3 (hw.2.2.2)⟩
set_option maxRecDepth 100000 in
theorem contract (H : Type) (enc : TypeId × Value → H) (W : World) (base : Nat) (args : Array Value) (ds gs : List (DataW H)) (before : List MemPlace)
    (hval : ∀ (j : Nat) t v, Tryd.f11.params[j]? = some t → args[j]? = some v → Value.okWide Tryd.prog W .any base t v)
    (hW : DataW.Whole enc Tryd.prog Tryd.f11.params.toList Rows.digestPlaysSpec.vars false W args.toList ds gs before) (hk : Rows.uptoSmall H (ds ++ gs) = true) (hlaid : laidMet Tryd.prog Rows.digestPlaysUptoRow.laid W)
    (hsz0 : (DataW.weightsEach Tryd.prog (Tryd.f11.params.toList ++ (Rows.OpenSpec.upto Rows.digestPlaysSpec).bare.plain.varTypes Tryd.prog) (ds ++ gs)).all (· ≤ reachBytes) = true) :
    Calls Tryd.prog 11 args W fun e W' => ∃ v, e = .returned v ∧ Rows.digestPlaysSpec.post enc Tryd.prog Tryd.f11 false true false false W args v W' := by
  have hW' := hW
  obtain ⟨p, q, hA0, hV, rfl, hfz, hnd⟩ := hW
  have hA : DataW.TrodAll enc Tryd.prog W 0 (fun _ => true) true Tryd.f11.params.toList args.toList ds p := hA0
  rw [Tryd.params11] at hA hval hsz0
  obtain ⟨v0, vs0, d0, ds0, p0, q0, hargs, rfl, rfl, h0, r0⟩ := trodAll_cons hA
  obtain ⟨rfl, rfl, rfl⟩ := trodAll_nil r0
  obtain rfl : args = #[v0] := by cases args; simp_all
  obtain ⟨rfl, rfl⟩ := trodVars_none hV
  have hsz : (DataW.weightsEach Tryd.prog [53] [d0]).all (· ≤ reachBytes) = true := hsz0
  simp only [DataW.weightsEach, List.all_append, Bool.and_eq_true, List.append_nil] at hsz
  have k0 := h0
  have lt0 := trod_lt' k0
  obtain ⟨a0, A0, c0, rfl, hc0, hr0, m0, o0⟩ := arg_slice (d := k64) (m := fun x => ((x.map fun y => (1 + 1 + 1 + ((y.f3.map fun y => 1).sum + 1) + 1)).sum + 1)) (ok := fun x => x.length * 48 ≤ 140737488351232 ∧ ∀ y, y ∈ x → ((Lit.int .i64 y.f0).wf = true) ∧ ((Lit.int .i64 y.f1).wf = true) ∧ ((Lit.int .i64 y.f2).wf = true) ∧ (y.f3.length * 1 ≤ 140737488351232 ∧ ∀ z, z ∈ y.f3 → (Lit.int .u8 z).wf = true)) Tryd.underlying53 (opens_slice (d := k64) Tryd.underlying53 opens_64 (by kernel_rfl) (by kernel_rfl)) (hval 0 53 v0 rfl rfl) h0
  have hk1 : Rows.uptoBulkAll ([d0] : List (DataW H)) ≤ 1048576 := of_decide_eq_true hk
  simp only [Rows.uptoBulkAll, Nat.add_zero] at hk1
  have hbulk : ((a0.map fun y => (1 + 1 + 1 + ((y.f3.map fun y => 1).sum + 1) + 1)).sum + 1) ≤ 1048576 := by have := m0; omega
  clear hA0
  have hT := Sha.tabs_of_laid hlaid
  refine (Sha.row_plays a0 (o0 hsz) hbulk W A0 c0 hr0 hc0 hT).mono fun e W' ⟨he, bel0⟩ => ?_
  have bel : Below W.heap.size W W' := bel0
  subst he
  exact ⟨_, rfl, _, _, _, [], _, [], hW', trodAll_mk1 (shut_bool Tryd.underlying4 _), (trodAll_cons_mk (Below.trod laidOut (by kernel_rfl) (of_decide_eq_true (by kernel_rfl)) k0 bel lt0) trodAll_mk0), rfl, bel.frame _, fun h => by cases h⟩
mutual
def cellsOf : DataW Unit → List Value
  | .lit (.int k n) => [.int k n]
  | .agg l => cellsOfAll l
  | _ => []
def cellsOfAll : List (DataW Unit) → List Value
  | [] => []
  | d :: l => cellsOf d ++ cellsOfAll l
end
noncomputable def laidWorld (os : Os) : World := { World.holding Tryd.prog os ⟨#[], #[], []⟩ with heap := ((((World.holding Tryd.prog os ⟨#[], #[], []⟩).heap.modify 1 fun | .cells _ t frozen => .cells (cellsOf Rows.laid_wicket_digest_roots).toArray t frozen | x => x).modify 0 fun | .cells _ t frozen => .cells (cellsOf Rows.laid_wicket_digest_first).toArray t frozen | x => x).modify 2 fun | .cells _ t frozen => .cells (cellsOf Rows.laid_wicket_wicketref02_roots).toArray t frozen | x => x) }
theorem laid_met (os : Os) : laidMet Tryd.prog Rows.digestPlaysUptoRow.laid ((laidWorld os).forCall (fun _ _ => 0) ⟨#[], #[.slice none 0 0], []⟩).memory := laidMet_of_run' 8 (by kernel_rfl) (by kernel_rfl)
theorem reads (os : Os) {H : Type} (enc : TypeId × Value → H) : ∃ places, DataW.whole enc Tryd.prog ((laidWorld os).forCall (fun _ _ => 0) ⟨#[], #[.slice none 0 0], []⟩).memory Tryd.f11.params.toList Rows.digestPlaysSpec.vars false (#[.slice none 0 0] : Array Value).toList 8 = some ([.nil], [], places) := ⟨[], by kernel_rfl⟩
set_option maxRecDepth 100000 in
theorem lifted (os : Os) (started : os.Started) (H : Type) (enc : TypeId × Value → H) (F : Stop.Interp) :
    ReturnsInHanded {} Tryd.checked os 11 .any ((Rows.OpenSpec.upto Rows.digestPlaysSpec).preRow enc Tryd.prog Tryd.f11 Rows.digestPlaysUptoRow.domain false Rows.digestPlaysUptoRow.laid) (((Rows.OpenSpec.upto Rows.digestPlaysSpec).at F).post enc Tryd.prog Tryd.f11 false true false false) := by
  obtain ⟨places, hx⟩ := reads os enc
  refine returnsInHanded_of_row (C := Tryd.checked) (s := (Rows.OpenSpec.upto Rows.digestPlaysSpec)) own started (by kernel_rfl) Tryd.func11
    (witness_row_at (enc := enc) (C := Tryd.checked) false (laidWorld os) #[.slice none 0 0] rfl (by kernel_rfl) (by kernel_rfl) (by kernel_rfl)
      (OpenSpec.preRow_of_cond 8 hx (by kernel_rfl) (fun k hk => by cases hk; kernel_rfl) (by kernel_rfl) (laid_met os))) ?_
  intro W base args ds gs before hval hW _ hcond hsz hlaid0 _ _
  exact contract H enc W base args ds gs before hval hW (hcond _ rfl) hlaid0 hsz
theorem said : Rows.DigestPlaysUptoSaid :=
  OpenClaim.holds_of_cond 11 Tryd.f11 rfl rfl rfl rfl rfl rfl rfl ⟨rfl, rfl, rfl, rfl, rfl⟩ rfl rfl rfl rfl rfl (by kernel_rfl) Tryd.func11 (by kernel_rfl)
    (of_decide_eq_true (by kernel_rfl)) (by unfold Func.isWrapper; first | (rw [if_pos (by decide +kernel)]; kernel_rfl) | (rw [if_neg (by decide +kernel)]; exact ⟨rfl, rfl⟩))
    (fun os started H enc _ F => by rw [OpenClaim.pre_eq_preRow]; exact lifted os started H enc F)
theorem plain (f : FuncId) (fn : Func) (hf : Tryd.pinned.checked.prog.funcNamed "wicket/wicketlaw02.DigestPlays" = some f) (hfn : Tryd.pinned.checked.prog.funcs[f]? = some fn) :
    false = Tryd.pinned.checked.prog.looks [] ∧ ∀ (j : Nat) t, fn.params[j]? = some t → Tryd.pinned.checked.prog.wantsStandIn t = false := by
  obtain rfl : f = 11 := Option.some.inj ((show Tryd.prog.funcNamed "wicket/wicketlaw02.DigestPlays" = some 11 by kernel_rfl).symm.trans hf) |>.symm
  obtain rfl : fn = Tryd.f11 := (Option.some.inj (Tryd.func11.symm.trans hfn)).symm
  refine ⟨by kernel_rfl, fun j t ht => ?_⟩
  rw [Tryd.params11] at ht
  match j, ht with
  | 0, ht =>
    obtain rfl : 53 = t := Option.some.inj ht
    exact (show Tryd.prog.wantsStandIn 53 = false by kernel_rfl)
  | n + 1, ht => simp at ht
theorem card : Rows.DigestPlaysUptoCardSaid :=
  Claim7.holds_tied_plain_at .later [] _ _ _ _ said (fun _ h => by cases h) (by kernel_rfl) (fun _ h => by cases h) digestPlaysUpto_row_tie rfl ⟨rfl, rfl⟩ (by kernel_rfl) rfl plain (by kernel_rfl)
end Go.Proofs.YtfedlgcpgfofjaaDoor.digestPlaysRowUpto
namespace Go.Proofs.YtfedlgcpgfofjaaDoor
/-- The statement, under a short name, for the claim. -/
theorem digestPlays_upto : Rows.DigestPlaysUptoCardSaid := digestPlaysRowUpto.card
#print axioms digestPlays_upto
end Go.Proofs.YtfedlgcpgfofjaaDoor
