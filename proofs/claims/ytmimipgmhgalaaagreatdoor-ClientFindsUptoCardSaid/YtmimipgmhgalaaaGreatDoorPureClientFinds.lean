/-
  THE PURE LAW of ClientFinds: both Find give the first client with that Id, and the list stays what it was.
-/
import Derived.Test.YtmimipgmhgalaaaGreatDoorPClients
import Derived.Test.YtmimipgmhgalaaaGreatDoorLFinds
namespace Go.Proofs.YtmimipgmhgalaaaGreatDoor.Pure
open Go.RowKit Go.Proofs.YtmimipgmhgalaaaGreatDoorW.PrintWords Go.Proofs.YtmimipgmhgalaaaGreatDoor.Plain Go.Proofs.YtmimipgmhgalaaaGreatDoor.PAll
set_option linter.unusedVariables false
theorem ClientFinds (l : List CC) (a : ByteArray)
    (ok : l.length * 88 ≤ 140737488351232 ∧ ∀ y, y ∈ l → (y.f0.size ≤ 140737488351232) ∧ (y.f1.size ≤ 140737488351232) ∧ ((Lit.int .i64 y.f2).wf = true) ∧ (True) ∧ (y.f4.size ≤ 140737488351232) ∧ (y.f5.length * 16 ≤ 140737488351232 ∧ ∀ z, z ∈ y.f5 → z.size ≤ 140737488351232))
    (ok1 : a.size ≤ 140737488351232) (hb : ((l.map weightC).sum + 1) + (a.size + 1) ≤ 1048576) : ∃ k, wicketlaw11_ClientFinds.f k l a = some true := by
  have hl := smallC_of l _ (Nat.le_refl _) (by omega)
  have hs := foundC_small a l hl.2
  refine Ev.rounds ?_
  unfold wicketlaw11_ClientFinds.f
  refine Ev.bind (copied_ev l hl) (Ev.bind (find_ev l hl a) (Ev.bind (all_ev l hl) (Ev.bind (rfind_ev l hl a) (Ev.bind (same_ev _ _ _ _ _ _ hs) (Ev.bind (list_ev l hl) ?_)))))
  exact Ev.pos ⟨hs, rfl, rfl, rfl⟩ (Ev.now _)
end Go.Proofs.YtmimipgmhgalaaaGreatDoor.Pure
