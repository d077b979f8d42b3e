/-
  THE PURE LAW of ClientChecks: the client's check answers as the reference's.
-/
import Derived.Test.YtmimipgmhgalaaaGreatDoorPure11d
import Derived.Test.YtmimipgmhgalaaaGreatDoorPAllx32
namespace Go.Proofs.YtmimipgmhgalaaaGreatDoor.Pure
open Go.RowKit Go.Proofs.YtmimipgmhgalaaaGreatDoorW.PrintWords Go.Proofs.YtmimipgmhgalaaaGreatDoor.Plain Go.Proofs.YtmimipgmhgalaaaGreatDoor.Spec Go.Proofs.YtmimipgmhgalaaaGreatDoor.PAll
set_option linter.unusedSimpArgs false
set_option linter.unusedVariables false
theorem ours_eq (i s : ByteArray) (gr : Int) (pg : Bool) (u : ByteArray) (sc : List ByteArray) (h : sc.length < 8796093022208) : wicketlaw11_ours.f i s gr pg u sc = some (i, s, gr, pg, u, sc) := by
  unfold wicketlaw11_ours.f
  rw [Option.bind_some, if_pos (by simpa using h)]
  rfl
theorem theirs_eq (i s : ByteArray) (gr : Int) (pg : Bool) (u : ByteArray) (sc : List ByteArray) (h : sc.length < 8796093022208) : wicketlaw11_theirs.f i s gr pg u sc = some (i, s, gr, pg, u, sc) := by
  unfold wicketlaw11_theirs.f
  rw [Option.bind_some, if_pos (by simpa using h)]
  rfl
theorem ClientChecks_of (i s : ByteArray) (gr : Int) (pg : Bool) (u : ByteArray) (sc : List ByteArray) (hn : sc.length < 8796093022208) (hs : Small ⟨i, s, gr, pg, u, sc⟩) : ∃ k, wicketlaw11_ClientChecks.f k i s gr pg u sc = some true := by
  refine Ev.rounds ?_
  unfold wicketlaw11_ClientChecks.f
  simp only [ours_eq i s gr pg u sc hn, theirs_eq i s gr pg u sc hn, Option.bind_some]
  refine Ev.bind (check_ev ⟨i, s, gr, pg, u, sc⟩ hs) ?_
  refine Ev.bind (Ev.now _) (Ev.bind (refcheck_ev ⟨i, s, gr, pg, u, sc⟩ hs) ?_)
  exact Ev.pos rfl (Ev.now true)
theorem sum_len (l : List ByteArray) : (joinedL l).length + l.length ≤ (l.map fun y => (y.size + 1)).sum + l.length ∧ l.length ≤ (l.map fun y => (y.size + 1)).sum := by
  have h2 : l.length ≤ (l.map fun y => (y.size + 1)).sum ∧ ∀ r : List ByteArray, (Lib.joinTail [32] (r.map (·.data.toList))).length ≤ (r.map fun y => (y.size + 1)).sum := by
    constructor
    · induction l with
      | nil => simp
      | cons x r ih => simp only [List.map_cons, List.sum_cons, List.length_cons]; omega
    · intro r
      induction r with
      | nil => simp [Lib.joinTail]
      | cons x r ih =>
        have e : (Lib.joinTail [32] ((x :: r).map (·.data.toList))).length = 1 + x.data.toList.length + (Lib.joinTail [32] (r.map (·.data.toList))).length := by
          unfold Lib.joinTail
          rw [List.map_cons, List.map_cons, List.flatten_cons, List.length_append, List.length_append]
          rfl
        have hx : x.data.toList.length = x.size := data_len _
        rw [e]
        simp only [List.map_cons, List.sum_cons]
        omega
  refine ⟨?_, h2.1⟩
  cases l with
  | nil => simp [joinedL, Lib.join_nil]
  | cons x r =>
    have h3 := h2.2 r
    have hx : x.data.toList.length = x.size := data_len _
    unfold joinedL
    rw [List.map_cons, Lib.join_cons, List.length_append]
    simp only [List.map_cons, List.sum_cons]
    omega
theorem ClientChecks (i s : ByteArray) (gr : Int) (pg : Bool) (u : ByteArray) (sc : List ByteArray)
    (ok : (i.size ≤ 140737488351232) ∧ (s.size ≤ 140737488351232) ∧ ((Lit.int .i64 gr).wf = true) ∧ (True) ∧ (u.size ≤ 140737488351232) ∧ (sc.length * 16 ≤ 140737488351232 ∧ ∀ y, y ∈ sc → y.size ≤ 140737488351232))
    (hb : ((i.size + 1) + (s.size + 1) + 1 + 1 + (u.size + 1) + ((sc.map fun y => (y.size + 1)).sum + 1) + 1) ≤ 1048576) : ∃ k, wicketlaw11_ClientChecks.f k i s gr pg u sc = some true := by
  have h := sum_len sc
  exact ClientChecks_of i s gr pg u sc (by omega) ⟨by show i.size ≤ _; omega, by show s.size ≤ _; omega, by show u.size ≤ _; omega, by show sc.length ≤ _; omega, by show (joinedL sc).length ≤ _; omega⟩
end Go.Proofs.YtmimipgmhgalaaaGreatDoor.Pure
