/-
  THE ROW OF THE LAW wicket/wicketlaw11.ClientWelcome (upto), out of its pure law and the walk of its function. Written by rowgen.py, a program of this session.
-/
import Derived.Test.YtmimipgmhgalaaaGreatDoorCards
import Derived.Test.YtmimipgmhgalaaaGreatDoorTie
import Derived.Test.YtmimipgmhgalaaaGreatDoorKClientWelcomef
import Derived.Lay
import Derived.MakeChecks
import Derived.WalkKit
import Derived.ProofKit
import Derived.OpenShut
import Derived.Deep.DeepHandedRow
import Derived.Lib.LaidTab
import Derived.Below
import Derived.SizedLaws
namespace Go.Proofs.YtmimipgmhgalaaaGreatDoor.clientWelcomeRowUpto
open Go.ChangeShapes Go.WideShapes Go.ChangeAt Go.RowKit Go.Proofs.YtmimipgmhgalaaaGreatDoor.Open Go.Proofs.YtmimipgmhgalaaaGreatDoorW.PrintWords Go.Proofs.YtmimipgmhgalaaaGreatDoor.PAll
set_option linter.unusedVariables false
set_option linter.unusedSimpArgs false
theorem own : ownKnob Tryz.prog.godebug = none := by kernel_rfl
theorem laidOut : laidOutB Tryz.prog = true := by kernel_rfl
set_option maxRecDepth 100000 in
theorem opens_40 : Opens Tryz.prog 40 k40 (fun x => ((x.f0.size + 1) + (x.f1.size + 1) + 1 + 1 + (x.f4.size + 1) + ((x.f5.map fun y => (y.size + 1)).sum + 1) + 1)) (fun x => (x.f0.size ≤ 140737488351232) ∧ (x.f1.size ≤ 140737488351232) ∧ ((Lit.int .i64 x.f2).wf = true) ∧ (True) ∧ (x.f4.size ≤ 140737488351232) ∧ (x.f5.length * 16 ≤ 140737488351232 ∧ ∀ y, y ∈ x.f5 → y.size ≤ 140737488351232)) := by
  intro H enc w base spare held fuel cs x h
  obtain ⟨xs, n, _, rfl, hl, hlen, hf⟩ := DataW.trod_struct Tryz.underlying40 h
  have hl' : cs.length = 6 := hl.trans (by kernel_rfl)
  match xs, hlen with
  | [y0, y1, y2, y3, y4, y5], _ =>
    have g0 : DataW.trod enc Tryz.prog w base spare held n 9 ((cs.drop 0).take 1) = some y0 := hf 0 _ rfl
    obtain ⟨a0, e0, m0, o0⟩ := (opens_string Tryz.underlying9) H enc w base spare held n _ y0 g0
    have g1 : DataW.trod enc Tryz.prog w base spare held n 9 ((cs.drop 1).take 1) = some y1 := hf 1 _ rfl
    obtain ⟨a1, e1, m1, o1⟩ := (opens_string Tryz.underlying9) H enc w base spare held n _ y1 g1
    have g2 : DataW.trod enc Tryz.prog w base spare held n 3 ((cs.drop 2).take 1) = some y2 := hf 2 _ rfl
    obtain ⟨a2, e2, m2, o2⟩ := (opens_int Tryz.underlying3) H enc w base spare held n _ y2 g2
    have g3 : DataW.trod enc Tryz.prog w base spare held n 4 ((cs.drop 3).take 1) = some y3 := hf 3 _ rfl
    obtain ⟨a3, e3, m3, o3⟩ := (opens_bool Tryz.underlying4) H enc w base spare held n _ y3 g3
    have g4 : DataW.trod enc Tryz.prog w base spare held n 9 ((cs.drop 4).take 1) = some y4 := hf 4 _ rfl
    obtain ⟨a4, e4, m4, o4⟩ := (opens_string Tryz.underlying9) H enc w base spare held n _ y4 g4
    have g5 : DataW.trod enc Tryz.prog w base spare held n 38 ((cs.drop 5).take 1) = some y5 := hf 5 _ rfl
    obtain ⟨a5, e5, m5, o5⟩ := (opens_slice (d := Kd.string) Tryz.underlying38 (opens_string Tryz.underlying9) (by kernel_rfl) (by kernel_rfl)) H enc w base spare held n _ y5 g5
    have m0' : (a0.size + 1) ≤ Rows.uptoBulk y0.1 := m0
    have m1' : (a1.size + 1) ≤ Rows.uptoBulk y1.1 := m1
    have m2' : 1 ≤ Rows.uptoBulk y2.1 := m2
    have m3' : 1 ≤ Rows.uptoBulk y3.1 := m3
    have m4' : (a4.size + 1) ≤ Rows.uptoBulk y4.1 := m4
    have m5' : ((a5.map fun y => (y.size + 1)).sum + 1) ≤ Rows.uptoBulk y5.1 := m5
    have hcut : cs = (cs.drop 0).take 1 ++ ((cs.drop 1).take 1 ++ ((cs.drop 2).take 1 ++ ((cs.drop 3).take 1 ++ ((cs.drop 4).take 1 ++ ((cs.drop 5).take 1))))) := by
      have z5 : (cs.drop 5).take 1 = cs.drop 5 := List.take_of_length_le (by simp; omega)
      have z0 : (cs.drop 0).take 1 ++ cs.drop 1 = cs.drop 0 := by rw [List.drop_zero]; exact List.take_append_drop _ _
      have z1 : (cs.drop 1).take 1 ++ cs.drop 2 = cs.drop 1 := by rw [← List.drop_drop (i := 1) (j := 1)]; exact List.take_append_drop _ _
      have z2 : (cs.drop 2).take 1 ++ cs.drop 3 = cs.drop 2 := by rw [← List.drop_drop (i := 1) (j := 2)]; exact List.take_append_drop _ _
      have z3 : (cs.drop 3).take 1 ++ cs.drop 4 = cs.drop 3 := by rw [← List.drop_drop (i := 1) (j := 3)]; exact List.take_append_drop _ _
      have z4 : (cs.drop 4).take 1 ++ cs.drop 5 = cs.drop 4 := by rw [← List.drop_drop (i := 1) (j := 4)]; exact List.take_append_drop _ _
      rw [z5, z4, z3, z2, z1, z0]
      simp
    refine ⟨⟨a0, a1, a2, a3, a4, a5⟩, ⟨_, _, hcut, e0, ⟨_, _, rfl, e1, ⟨_, _, rfl, e2, ⟨_, _, rfl, e3, ⟨_, _, rfl, e4, e5⟩⟩⟩⟩⟩, ?_, fun hw => ?_⟩
    · simp only [Rows.uptoBulk, Rows.uptoBulkAll, List.map_cons, List.map_nil]; omega
    · rw [DataW.weights, Tryz.underlying40] at hw
      simp only [List.map_cons, List.map_nil, DataW.weightsEach, List.all_append, Bool.and_eq_true, List.append_nil] at hw
      exact ⟨o0 (hw.1), o1 (hw.2.1), o2 (hw.2.2.1), o3 (hw.2.2.2.1), o4 (hw.2.2.2.2.1), o5 (hw.2.2.2.2.2)⟩
set_option maxRecDepth 100000 in
theorem opens_68 : Opens Tryz.prog 68 k68 (fun x => ((x.f0.size + 1) + (x.f1.size + 1) + 1)) (fun x => (x.f0.size ≤ 140737488351232) ∧ (x.f1.size ≤ 140737488351232)) := by
  intro H enc w base spare held fuel cs x h
  obtain ⟨xs, n, _, rfl, hl, hlen, hf⟩ := DataW.trod_struct Tryz.underlying68 h
  have hl' : cs.length = 2 := hl.trans (by kernel_rfl)
  match xs, hlen with
  | [y0, y1], _ =>
    have g0 : DataW.trod enc Tryz.prog w base spare held n 9 ((cs.drop 0).take 1) = some y0 := hf 0 _ rfl
    obtain ⟨a0, e0, m0, o0⟩ := (opens_string Tryz.underlying9) H enc w base spare held n _ y0 g0
    have g1 : DataW.trod enc Tryz.prog w base spare held n 9 ((cs.drop 1).take 1) = some y1 := hf 1 _ rfl
    obtain ⟨a1, e1, m1, o1⟩ := (opens_string Tryz.underlying9) H enc w base spare held n _ y1 g1
    have m0' : (a0.size + 1) ≤ Rows.uptoBulk y0.1 := m0
    have m1' : (a1.size + 1) ≤ Rows.uptoBulk y1.1 := m1
    have hcut : cs = (cs.drop 0).take 1 ++ ((cs.drop 1).take 1) := by
      have z1 : (cs.drop 1).take 1 = cs.drop 1 := List.take_of_length_le (by simp; omega)
      have z0 : (cs.drop 0).take 1 ++ cs.drop 1 = cs.drop 0 := by rw [List.drop_zero]; exact List.take_append_drop _ _
      rw [z1, z0]
      simp
    refine ⟨⟨a0, a1⟩, ⟨_, _, hcut, e0, e1⟩, ?_, fun hw => ?_⟩
    · simp only [Rows.uptoBulk, Rows.uptoBulkAll, List.map_cons, List.map_nil]; omega
    · rw [DataW.weights, Tryz.underlying68] at hw
      simp only [List.map_cons, List.map_nil, DataW.weightsEach, List.all_append, Bool.and_eq_true, List.append_nil] at hw
      exact ⟨o0 (hw.1), o1 (hw.2)⟩
set_option maxRecDepth 100000 in
theorem opens_74 : Opens Tryz.prog 74 k74 (fun x => (((x.f0.map fun y => ((y.f0.size + 1) + (y.f1.size + 1) + 1 + 1 + (y.f4.size + 1) + ((y.f5.map fun y => (y.size + 1)).sum + 1) + 1)).sum + 1) + 1 + (x.f2.size + 1) + (x.f3.size + 1) + ((x.f4.map fun y => ((y.f0.size + 1) + (y.f1.size + 1) + 1)).sum + 1) + 1)) (fun x => (x.f0.length * 88 ≤ 140737488351232 ∧ ∀ y, y ∈ x.f0 → (y.f0.size ≤ 140737488351232) ∧ (y.f1.size ≤ 140737488351232) ∧ ((Lit.int .i64 y.f2).wf = true) ∧ (True) ∧ (y.f4.size ≤ 140737488351232) ∧ (y.f5.length * 16 ≤ 140737488351232 ∧ ∀ z, z ∈ y.f5 → z.size ≤ 140737488351232)) ∧ ((Lit.int .i64 x.f1).wf = true) ∧ (x.f2.size ≤ 140737488351232) ∧ (x.f3.size ≤ 140737488351232) ∧ (x.f4.length * 32 ≤ 140737488351232 ∧ ∀ y, y ∈ x.f4 → (y.f0.size ≤ 140737488351232) ∧ (y.f1.size ≤ 140737488351232))) := by
  intro H enc w base spare held fuel cs x h
  obtain ⟨xs, n, _, rfl, hl, hlen, hf⟩ := DataW.trod_struct Tryz.underlying74 h
  have hl' : cs.length = 5 := hl.trans (by kernel_rfl)
  match xs, hlen with
  | [y0, y1, y2, y3, y4], _ =>
    have g0 : DataW.trod enc Tryz.prog w base spare held n 22 ((cs.drop 0).take 1) = some y0 := hf 0 _ rfl
    obtain ⟨a0, e0, m0, o0⟩ := (opens_slice (d := k40) Tryz.underlying22 opens_40 (by kernel_rfl) (by kernel_rfl)) H enc w base spare held n _ y0 g0
    have g1 : DataW.trod enc Tryz.prog w base spare held n 3 ((cs.drop 1).take 1) = some y1 := hf 1 _ rfl
    obtain ⟨a1, e1, m1, o1⟩ := (opens_int Tryz.underlying3) H enc w base spare held n _ y1 g1
    have g2 : DataW.trod enc Tryz.prog w base spare held n 9 ((cs.drop 2).take 1) = some y2 := hf 2 _ rfl
    obtain ⟨a2, e2, m2, o2⟩ := (opens_string Tryz.underlying9) H enc w base spare held n _ y2 g2
    have g3 : DataW.trod enc Tryz.prog w base spare held n 9 ((cs.drop 3).take 1) = some y3 := hf 3 _ rfl
    obtain ⟨a3, e3, m3, o3⟩ := (opens_string Tryz.underlying9) H enc w base spare held n _ y3 g3
    have g4 : DataW.trod enc Tryz.prog w base spare held n 60 ((cs.drop 4).take 1) = some y4 := hf 4 _ rfl
    obtain ⟨a4, e4, m4, o4⟩ := (opens_slice (d := k68) Tryz.underlying60 opens_68 (by kernel_rfl) (by kernel_rfl)) H enc w base spare held n _ y4 g4
    have m0' : ((a0.map fun y => ((y.f0.size + 1) + (y.f1.size + 1) + 1 + 1 + (y.f4.size + 1) + ((y.f5.map fun y => (y.size + 1)).sum + 1) + 1)).sum + 1) ≤ Rows.uptoBulk y0.1 := m0
    have m1' : 1 ≤ Rows.uptoBulk y1.1 := m1
    have m2' : (a2.size + 1) ≤ Rows.uptoBulk y2.1 := m2
    have m3' : (a3.size + 1) ≤ Rows.uptoBulk y3.1 := m3
    have m4' : ((a4.map fun y => ((y.f0.size + 1) + (y.f1.size + 1) + 1)).sum + 1) ≤ Rows.uptoBulk y4.1 := m4
    have hcut : cs = (cs.drop 0).take 1 ++ ((cs.drop 1).take 1 ++ ((cs.drop 2).take 1 ++ ((cs.drop 3).take 1 ++ ((cs.drop 4).take 1)))) := by
      have z4 : (cs.drop 4).take 1 = cs.drop 4 := List.take_of_length_le (by simp; omega)
      have z0 : (cs.drop 0).take 1 ++ cs.drop 1 = cs.drop 0 := by rw [List.drop_zero]; exact List.take_append_drop _ _
      have z1 : (cs.drop 1).take 1 ++ cs.drop 2 = cs.drop 1 := by rw [← List.drop_drop (i := 1) (j := 1)]; exact List.take_append_drop _ _
      have z2 : (cs.drop 2).take 1 ++ cs.drop 3 = cs.drop 2 := by rw [← List.drop_drop (i := 1) (j := 2)]; exact List.take_append_drop _ _
      have z3 : (cs.drop 3).take 1 ++ cs.drop 4 = cs.drop 3 := by rw [← List.drop_drop (i := 1) (j := 3)]; exact List.take_append_drop _ _
      rw [z4, z3, z2, z1, z0]
      simp
    refine ⟨⟨a0, a1, a2, a3, a4⟩, ⟨_, _, hcut, e0, ⟨_, _, rfl, e1, ⟨_, _, rfl, e2, ⟨_, _, rfl, e3, e4⟩⟩⟩⟩, ?_, fun hw => ?_⟩
    · simp only [Rows.uptoBulk, Rows.uptoBulkAll, List.map_cons, List.map_nil]; omega
    · rw [DataW.weights, Tryz.underlying74] at hw
      simp only [List.map_cons, List.map_nil, DataW.weightsEach, List.all_append, Bool.and_eq_true, List.append_nil] at hw
      exact ⟨o0 (hw.1), o1 (hw.2.1), o2 (hw.2.2.1), o3 (hw.2.2.2.1), o4 (hw.2.2.2.2)⟩
set_option maxRecDepth 100000 in
theorem contract (H : Type) (enc : TypeId × Value → H) (W : World) (base : Nat) (args : Array Value) (ds gs : List (DataW H)) (before : List MemPlace)
    (hval : ∀ (j : Nat) t v, Tryz.f13.params[j]? = some t → args[j]? = some v → Value.okWide Tryz.prog W .any base t v)
    (hW : DataW.Whole enc Tryz.prog Tryz.f13.params.toList Rows.clientWelcomeSpec.vars false W args.toList ds gs before) (hk : Rows.uptoSmall H (ds ++ gs) = true) (hlaid : laidMet Tryz.prog Rows.clientWelcomeUptoRow.laid W)
    (hsz0 : (DataW.weightsEach Tryz.prog (Tryz.f13.params.toList ++ (Rows.OpenSpec.upto Rows.clientWelcomeSpec).bare.plain.varTypes Tryz.prog) (ds ++ gs)).all (· ≤ reachBytes) = true) :
    Calls Tryz.prog 13 args W fun e W' => ∃ v, e = .returned v ∧ Rows.clientWelcomeSpec.post enc Tryz.prog Tryz.f13 false true false false W args v W' := by
  have hW' := hW
  obtain ⟨p, q, hA0, hV, rfl, hfz, hnd⟩ := hW
  have hA : DataW.TrodAll enc Tryz.prog W 0 (fun _ => true) true Tryz.f13.params.toList args.toList ds p := hA0
  rw [Tryz.params13] at hA hval hsz0
  obtain ⟨v0, vs0, d0, ds0, p0, q0, hargs, rfl, rfl, h0, r0⟩ := trodAll_cons hA
  obtain ⟨rfl, rfl, rfl⟩ := trodAll_nil r0
  obtain rfl : args = #[v0] := by cases args; simp_all
  obtain ⟨rfl, rfl⟩ := trodVars_none hV
  have hsz : (DataW.weightsEach Tryz.prog [74] [d0]).all (· ≤ reachBytes) = true := hsz0
  simp only [DataW.weightsEach, List.all_append, Bool.and_eq_true, List.append_nil] at hsz
  have k0 := h0
  have lt0 := trod_lt' k0
  obtain ⟨a0, cs0, rfl, K0, m0, o0⟩ := arg_struct (d := k74) Tryz.underlying74 opens_74 (hval 0 74 v0 rfl rfl) h0
  obtain ⟨A0_0, c0_0, A0_4, c0_4, rfl, l0_0, g0_0, l0_4, g0_4⟩ := k74_open K0
  have hk1 : Rows.uptoBulkAll ([d0] : List (DataW H)) ≤ 1048576 := of_decide_eq_true hk
  simp only [Rows.uptoBulkAll, Nat.add_zero] at hk1
  have hbulk : (((a0.f0.map fun y => ((y.f0.size + 1) + (y.f1.size + 1) + 1 + 1 + (y.f4.size + 1) + ((y.f5.map fun y => (y.size + 1)).sum + 1) + 1)).sum + 1) + 1 + (a0.f2.size + 1) + (a0.f3.size + 1) + ((a0.f4.map fun y => ((y.f0.size + 1) + (y.f1.size + 1) + 1)).sum + 1) + 1) ≤ 1048576 := by have := m0; omega
  clear hA0
  have hT := Pure.tabs_welcome hlaid
  refine (Pure.row_welcome a0.f0 a0.f1 a0.f2 a0.f3 a0.f4 (o0 hsz) hbulk W A0_0 c0_0 A0_4 c0_4 g0_0 l0_0 g0_4 l0_4 hT).mono fun e W' ⟨he, bel0⟩ => ?_
  have bel : Below W.heap.size W W' := bel0
  subst he
  exact ⟨_, rfl, _, _, _, [], _, [], hW', trodAll_mk1 (shut_bool Tryz.underlying4 _), (trodAll_cons_mk (Below.trod laidOut (by kernel_rfl) (of_decide_eq_true (by kernel_rfl)) k0 bel lt0) trodAll_mk0), rfl, bel.frame _, fun h => by cases h⟩
theorem witness_row_sh {H : Type} {enc : TypeId × Value → H} {C : Checked} {os : Os} {f : FuncId} {fn : Func} {s : OpenSpec} {conds : List PathCond} {apart : Bool} {laid : List (String × DataW Unit)} (modest : Bool) (w0 : World) (args : Array Value) (hos : w0.os = os)
    (hsh : (w0.forCall (fun _ _ => 0) ⟨#[], args, []⟩).Shaped C.prog) (hok : Input.okWideB C.prog (w0.forCall (fun _ _ => 0) ⟨#[], args, []⟩) f ⟨#[], args, []⟩ = true)
    (hrow : s.preRow enc C.prog fn conds apart laid (w0.forCall (fun _ _ => 0) ⟨#[], args, []⟩).memory args) :
    ∃ (w : World) (tape : Tape) (i : Input), w.os = os ∧ (w.forCall tape i).Shaped C.prog ∧ i.vars = [] ∧ Input.okWide C.prog (w.forCall tape i) .any w.heap.size f i ∧
      s.preRow enc C.prog fn conds apart laid (w.forCall tape i).memory i.args ∧ ({ modest := modest } : Assume).holds C.prog (lone (Frame.enter C.prog f i.args .normal) [] (w.forCall tape i)) :=
  ⟨w0, fun _ _ => 0, ⟨#[], args, []⟩, hos, hsh, (Input.okWide_of_okWideB (base := 0) hok).1, (Input.okWide_of_okWideB hok).2, hrow, by
    simp only [Assume.holds]
    exact ⟨by simp, by simp, fun _ => Modest.zero, by simp, by simp⟩⟩
noncomputable def laidWorld (os : Os) : World := World.laidAll Tryz.prog os Rows.clientWelcomeUptoRow.laid
theorem laid_met (os : Os) : laidMetH Tryz.prog Rows.clientWelcomeUptoRow.laid ((laidWorld os).forCall (fun _ _ => 0) ⟨#[], #[.agg #[.slice none 0 0, .int .i64 0, .string ByteArray.empty, .string ByteArray.empty, .slice none 0 0]], []⟩).memory := by
  rw [MakeChecks.laidMetH_plain _ _ _ (by kernel_rfl)]
  exact laidMet_laidAll _ (by kernel_rfl) (by kernel_rfl)
theorem reads (os : Os) {H : Type} (enc : TypeId × Value → H) : ∃ places, DataW.whole enc Tryz.prog ((laidWorld os).forCall (fun _ _ => 0) ⟨#[], #[.agg #[.slice none 0 0, .int .i64 0, .string ByteArray.empty, .string ByteArray.empty, .slice none 0 0]], []⟩).memory Tryz.f13.params.toList Rows.clientWelcomeSpec.vars false (#[.agg #[.slice none 0 0, .int .i64 0, .string ByteArray.empty, .string ByteArray.empty, .slice none 0 0]] : Array Value).toList 8 = some ([.agg [.nil, .lit (.int .i64 0), .lit (.string []), .lit (.string []), .nil]], [], places) := ⟨[], by kernel_rfl⟩
set_option maxRecDepth 100000 in
theorem lifted (os : Os) (started : os.Started) (H : Type) (enc : TypeId × Value → H) (F : Stop.Interp) :
    ReturnsInHanded {} Tryz.checked os 13 .any ((Rows.OpenSpec.upto Rows.clientWelcomeSpec).preRow enc Tryz.prog Tryz.f13 Rows.clientWelcomeUptoRow.domain false Rows.clientWelcomeUptoRow.laid) (((Rows.OpenSpec.upto Rows.clientWelcomeSpec).at F).post enc Tryz.prog Tryz.f13 false true false false) := by
  obtain ⟨places, hx⟩ := reads os enc
  refine returnsInHanded_of_row (C := Tryz.checked) (s := (Rows.OpenSpec.upto Rows.clientWelcomeSpec)) own started (by kernel_rfl) Tryz.func13
    (witness_row_sh (enc := enc) (C := Tryz.checked) false (laidWorld os) #[.agg #[.slice none 0 0, .int .i64 0, .string ByteArray.empty, .string ByteArray.empty, .slice none 0 0]] (World.laidAll_os _ _ _) (World.shaped_of_ZipB (by kernel_rfl) (by kernel_rfl)) (by kernel_rfl)
      (OpenSpec.preRow_of_cond 8 hx (by kernel_rfl) (fun k hk => by cases hk; kernel_rfl) (by kernel_rfl) (laid_met os))) ?_
  intro W base args ds gs before hval hW _ hcond hsz hlaid0 _ _
  exact contract H enc W base args ds gs before hval hW (hcond _ rfl) hlaid0 hsz
theorem said : Rows.ClientWelcomeUptoSaid :=
  OpenClaim.holds_of_cond 13 Tryz.f13 rfl rfl rfl rfl rfl rfl rfl ⟨rfl, rfl, rfl, rfl, rfl⟩ rfl rfl rfl rfl rfl (by kernel_rfl) Tryz.func13 (by kernel_rfl)
    (of_decide_eq_true (by kernel_rfl)) (by unfold Func.isWrapper; first | (rw [if_pos (by decide +kernel)]; kernel_rfl) | (rw [if_neg (by decide +kernel)]; exact ⟨rfl, rfl⟩))
    (fun os started H enc _ F => by rw [OpenClaim.pre_eq_preRow]; exact lifted os started H enc F)
theorem plain (f : FuncId) (fn : Func) (hf : Tryz.pinned.checked.prog.funcNamed "wicket/wicketlaw11.ClientWelcome" = some f) (hfn : Tryz.pinned.checked.prog.funcs[f]? = some fn) :
    false = Tryz.pinned.checked.prog.looks [] ∧ ∀ (j : Nat) t, fn.params[j]? = some t → Tryz.pinned.checked.prog.wantsStandIn t = false := by
  obtain rfl : f = 13 := Option.some.inj ((show Tryz.prog.funcNamed "wicket/wicketlaw11.ClientWelcome" = some 13 by kernel_rfl).symm.trans hf) |>.symm
  obtain rfl : fn = Tryz.f13 := (Option.some.inj (Tryz.func13.symm.trans hfn)).symm
  refine ⟨by kernel_rfl, fun j t ht => ?_⟩
  rw [Tryz.params13] at ht
  match j, ht with
  | 0, ht =>
    obtain rfl : 74 = t := Option.some.inj ht
    exact (show Tryz.prog.wantsStandIn 74 = false by kernel_rfl)
  | n + 1, ht => simp at ht
theorem card : Rows.ClientWelcomeUptoCardSaid :=
  Claim7.holds_tied_plain_at .later [] _ _ _ _ said (fun _ h => by cases h) (by kernel_rfl) (fun _ h => by cases h) clientWelcomeUpto_row_tie rfl ⟨rfl, rfl⟩ (by kernel_rfl) rfl plain (by kernel_rfl)
end Go.Proofs.YtmimipgmhgalaaaGreatDoor.clientWelcomeRowUpto
namespace Go.Proofs.YtmimipgmhgalaaaGreatDoor
/-- The statement, under a short name, for the claim. -/
theorem clientWelcome_upto : Rows.ClientWelcomeUptoCardSaid := clientWelcomeRowUpto.card
#print axioms clientWelcome_upto
end Go.Proofs.YtmimipgmhgalaaaGreatDoor
