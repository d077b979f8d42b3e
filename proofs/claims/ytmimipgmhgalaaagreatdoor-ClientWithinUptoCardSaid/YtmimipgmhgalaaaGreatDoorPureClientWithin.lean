/-
  THE PURE LAW of ClientWithin: no scope that is answered is not the client's; what is answered is what was asked for.
-/
import Derived.Test.YtmimipgmhgalaaaGreatDoorPAsk
import Derived.Test.YtmimipgmhgalaaaGreatDoorPure11r
import Derived.Test.YtmimipgmhgalaaaGreatDoorPAllx42
namespace Go.Proofs.YtmimipgmhgalaaaGreatDoor.Pure
open Go.RowKit Go.Proofs.YtmimipgmhgalaaaGreatDoorW.PrintWords Go.Proofs.YtmimipgmhgalaaaGreatDoor.Plain Go.Proofs.YtmimipgmhgalaaaGreatDoor.Spec Go.Proofs.YtmimipgmhgalaaaGreatDoor.PAll
set_option linter.unusedSimpArgs false
set_option linter.unusedVariables false
theorem empty_toList (a : ByteArray) : a.toList = [] ↔ a = ⟨#[]⟩ := by
  rw [toList_data]
  constructor
  · intro h; rw [← bs_of a, h]; rfl
  · intro h; rw [h]
theorem putL_width (s : List UInt8) : ∀ l : List (List UInt8), widthL (putL l s) ≤ widthL l + (s.length + 1)
  | [] => by simp [putL, widthL]
  | p :: r => by
    unfold putL
    have ih := putL_width s r
    split
    · omega
    · split
      · simp only [widthL_cons]; omega
      · simp only [widthL_cons] at ih ⊢; omega
theorem fold_width : ∀ (ps acc : List (List UInt8)), widthL (ps.foldl putL acc) ≤ widthL acc + widthL ps
  | [], acc => by simp [widthL]
  | p :: r, acc => by
    have h1 := fold_width r (putL acc p)
    have h2 := putL_width p acc
    simp only [List.foldl_cons, widthL_cons] at *
    omega
theorem joinL_width : ∀ l : List (List UInt8), l ≠ [] → (joinL l).length + 1 = widthL l
  | [], h => absurd rfl h
  | [p], _ => by simp [joinL, widthL]
  | p :: q :: r, _ => by
    have ih := joinL_width (q :: r) (by simp)
    rw [widthL_cons, ← ih]
    simp only [joinL, List.length_append, List.length_cons]
    omega
theorem joinTail_joinL : ∀ (p : List UInt8) (r : List (List UInt8)), p ++ Lib.joinTail [32] r = joinL (p :: r)
  | p, [] => by simp [Lib.joinTail, joinL]
  | p, q :: r => by
    have ih := joinTail_joinL q r
    have e : Lib.joinTail [32] (q :: r) = 32 :: (q ++ Lib.joinTail [32] r) := by
      unfold Lib.joinTail
      rw [List.map_cons, List.flatten_cons]; rfl
    rw [e, ih]; rfl
theorem joinedL_joinL (L : List (List UInt8)) : joinedL (L.map bs) = joinL L := by
  unfold joinedL
  rw [map_of_bs]
  cases L with
  | nil => rfl
  | cons p r => rw [Lib.join_cons]; exact joinTail_joinL p r
/-- What was read as scopes, joined, reads as the same. -/
theorem scopes_again (l : List UInt8) (h : (scopesL l).2 = 0) : scopesL (joinL (scopesL l).1) = ((scopesL l).1, 0) := by
  have hf := scopesL_facts l h
  have hl := scopesL_len32 l
  by_cases h0 : (scopesL l).1 = []
  · rw [h0]; rfl
  · refine (scopesL_join _ _ hf.1 (fun p hp => (hf.2 p hp).1) h0 (fun x => Iff.rfl) hl).2 ?_
    have hw := joinL_width _ h0
    have : widthL (scopesL l).1 ≤ 257 := by
      unfold scopesL at h ⊢
      split
      · simp [widthL]
      · split
        · simp [widthL]
        · split
          · simp [widthL]
          · split
            · simp [widthL]
            · show widthL (setL (splitL 32 l)) ≤ 257
              have h1 := fold_width (splitL 32 l) []
              have h2 := splitL_width 32 l
              have h3 : widthL ([] : List (List UInt8)) = 0 := rfl
              unfold setL
              omega
    omega
attribute [local instance] Classical.propDecidable
theorem within_all (i s : ByteArray) (gr : Int) (pg : Bool) (u : ByteArray) (sc : List ByteArray) (a : ByteArray) (hn : sc.length < 8796093021952) (hj : (joinedL sc).length ≤ 140737488355328) :
    Ev (fun k => wicketlaw11_ClientWithin.f k i s gr pg u sc a) true := by
  unfold wicketlaw11_ClientWithin.f
  simp only [ours_eq i s gr pg u sc (by omega), theirs_eq i s gr pg u sc (by omega), Option.bind_some]
  refine Ev.bind (scope_ev i s gr pg u sc a (by omega) (by omega)) (Ev.bind (Ev.now _) ?_)
  have hal := askL_len a
  unfold scopeR
  by_cases h0 : a = ⟨#[]⟩
  · rw [if_pos h0]
    refine Ev.pos rfl (Ev.pos ((empty_toList a).2 h0) (Ev.bind (joined_ev sc (by omega) hj) (Ev.pos rfl (Ev.bind (Ev.now true) (Ev.now true)))))
  · rw [if_neg h0]
    by_cases h2 : (scopesL a.data.toList).2 = 0 ∧ ∀ x ∈ askL a, x ∈ sc
    · rw [if_pos h2]
      refine Ev.pos rfl (Ev.neg (fun h => h0 ((empty_toList a).1 h)) (Ev.bind (refscopes_ev _) (Ev.bind (refscopes_ev a) ?_)))
      have hag : scopesL (bs (joinedL (askL a))).data.toList = ((scopesL a.data.toList).1, 0) := by
        rw [bs_data]
        unfold askL
        rw [joinedL_joinL]
        exact scopes_again _ h2.1
      rw [hag]
      refine Ev.pos rfl (Ev.pos h2.1 ?_)
      show Ev (fun n => ((wicketref03_Within.f n (askL a) sc).bind fun t918 => (if t918 = true then ((wicketref03_Within.f n (askL a) (askL a)).bind fun t919 => (if t919 = true then ((wicketref03_Within.f n (askL a) (askL a)).bind fun t920 => (if t920 = true then ((wicketlaw11_live.f).bind fun t921 => (some t921)) else (some false))) else (some false))) else (some false)))) true
      have hs := rw_ (askL a) (askL a) (by omega) (by omega)
      rw [decide_eq_true (show ∀ x ∈ askL a, x ∈ askL a from fun x hx => hx)] at hs
      have hc := rw_ (askL a) sc (by omega) (by omega)
      rw [decide_eq_true h2.2] at hc
      exact Ev.bind hc (Ev.pos rfl (Ev.bind hs (Ev.pos rfl (Ev.bind hs (Ev.pos rfl (Ev.bind (Ev.now true) (Ev.now true)))))))
    · rw [if_neg h2]
      refine Ev.neg (by decide) (Ev.pos (by rw [toList_data]) (Ev.bind (Ev.now _) (Ev.pos rfl (Ev.bind (Ev.now true) (Ev.now true)))))
theorem ClientWithin (i s : ByteArray) (gr : Int) (pg : Bool) (u : ByteArray) (sc : List ByteArray) (a : ByteArray)
    (ok : (i.size ≤ 140737488351232) ∧ (s.size ≤ 140737488351232) ∧ ((Lit.int .i64 gr).wf = true) ∧ (True) ∧ (u.size ≤ 140737488351232) ∧ (sc.length * 16 ≤ 140737488351232 ∧ ∀ y, y ∈ sc → y.size ≤ 140737488351232)) (ok1 : a.size ≤ 140737488351232)
    (hb : ((i.size + 1) + (s.size + 1) + 1 + 1 + (u.size + 1) + ((sc.map fun y => (y.size + 1)).sum + 1) + 1) + (a.size + 1) ≤ 1048576) : ∃ k, wicketlaw11_ClientWithin.f k i s gr pg u sc a = some true := by
  have h := sumj_len sc
  exact Ev.rounds (within_all i s gr pg u sc a (by omega) (by omega))
end Go.Proofs.YtmimipgmhgalaaaGreatDoor.Pure
