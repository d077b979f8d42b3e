/-
  THE PURE LAW of ClientScopes: what a client may have of what it asks for is the reference's answer.
-/
import Derived.Test.YtmimipgmhgalaaaGreatDoorPAsk
import Derived.Test.YtmimipgmhgalaaaGreatDoorPure11r
import Derived.Test.YtmimipgmhgalaaaGreatDoorPAllx24
namespace Go.Proofs.YtmimipgmhgalaaaGreatDoor.Pure
open Go.RowKit Go.Proofs.YtmimipgmhgalaaaGreatDoorW.PrintWords Go.Proofs.YtmimipgmhgalaaaGreatDoor.Plain Go.Proofs.YtmimipgmhgalaaaGreatDoor.Spec Go.Proofs.YtmimipgmhgalaaaGreatDoor.PAll
set_option linter.unusedSimpArgs false
set_option linter.unusedVariables false
theorem empty_toList (a : ByteArray) : a.toList = [] ↔ a = ⟨#[]⟩ := by
  rw [toList_data]
  constructor
  · intro h; rw [← bs_of a, h]; rfl
  · intro h; rw [h]
attribute [local instance] Classical.propDecidable
theorem refscope_ev (i s : ByteArray) (gr : Int) (pg : Bool) (u : ByteArray) (sc : List ByteArray) (a : ByteArray) (hn : sc.length ≤ 8796093021952) (hj : (joinedL sc).length ≤ 140737488355328) :
    Ev (fun k => wicketref11_Scope.f k i s gr pg u sc a) (scopeR sc a) := by
  unfold wicketref11_Scope.f scopeR
  have hal := askL_len a
  have haj := askL_join a
  by_cases h0 : a = ⟨#[]⟩
  · rw [if_pos h0]
    exact Ev.pos ((empty_toList a).2 h0) (Ev.bind (joined_ev sc (by omega) hj) (Ev.now _))
  · rw [if_neg h0]
    refine Ev.neg (fun h => h0 ((empty_toList a).1 h)) (Ev.bind (refscopes_ev a) ?_)
    show Ev (fun n => if (scopesL a.data.toList).2 = 0 then ((wicketref03_Within.f n (askL a) sc).bind fun t762 => (if t762 = true then ((wicketref11_Joined.f n (askL a)).bind fun t763 => (some (t763, 0))) else (some ((⟨#[]⟩ : ByteArray), 114)))) else (some ((⟨#[]⟩ : ByteArray), 114))) _
    by_cases h1 : (scopesL a.data.toList).2 = 0
    · refine Ev.pos h1 (Ev.bind (rw_ (askL a) sc (by omega) hn) ?_)
      by_cases h2 : ∀ x ∈ askL a, x ∈ sc
      · rw [decide_eq_true h2]
        exact Ev.pos rfl (Ev.bind (joined_ev _ (by omega) (by omega)) (Ev.eq (Ev.now _) (by rw [if_pos ⟨h1, h2⟩])))
      · rw [decide_eq_false h2]
        exact Ev.neg (by simp) (Ev.eq (Ev.now _) (by rw [if_neg (fun h => h2 h.2)]))
    · exact Ev.neg h1 (Ev.eq (Ev.now _) (by rw [if_neg (fun h => h1 h.1)]))
theorem ClientScopes (i s : ByteArray) (gr : Int) (pg : Bool) (u : ByteArray) (sc : List ByteArray) (a : ByteArray)
    (ok : (i.size ≤ 140737488351232) ∧ (s.size ≤ 140737488351232) ∧ ((Lit.int .i64 gr).wf = true) ∧ (True) ∧ (u.size ≤ 140737488351232) ∧ (sc.length * 16 ≤ 140737488351232 ∧ ∀ y, y ∈ sc → y.size ≤ 140737488351232)) (ok1 : a.size ≤ 140737488351232)
    (hb : ((i.size + 1) + (s.size + 1) + 1 + 1 + (u.size + 1) + ((sc.map fun y => (y.size + 1)).sum + 1) + 1) + (a.size + 1) ≤ 1048576) : ∃ k, wicketlaw11_ClientScopes.f k i s gr pg u sc a = some true := by
  have h := sumj_len sc
  have hn : sc.length < 8796093022208 := by omega
  refine Ev.rounds ?_
  unfold wicketlaw11_ClientScopes.f
  simp only [ours_eq i s gr pg u sc hn, theirs_eq i s gr pg u sc hn, Option.bind_some]
  refine Ev.bind (scope_ev i s gr pg u sc a (by omega) (by omega)) (Ev.bind (refscope_ev i s gr pg u sc a (by omega) (by omega)) ?_)
  exact Ev.pos rfl (Ev.bind (Ev.now _) (Ev.pos rfl (Ev.now true)))
end Go.Proofs.YtmimipgmhgalaaaGreatDoor.Pure
