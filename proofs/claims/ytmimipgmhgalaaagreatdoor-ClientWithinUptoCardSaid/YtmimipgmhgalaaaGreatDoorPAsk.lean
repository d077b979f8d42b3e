/-
  What a client may have of what it asks for: client.Scope's answer on lists.
-/
import Derived.Test.YtmimipgmhgalaaaGreatDoorPure11c
import Derived.Test.YtmimipgmhgalaaaGreatDoorPScope
import Derived.Test.YtmimipgmhgalaaaGreatDoorPWithin
import Derived.Test.YtmimipgmhgalaaaGreatDoorFCScope
import Derived.Test.YtmimipgmhgalaaaGreatDoorPAllx12
namespace Go.Proofs.YtmimipgmhgalaaaGreatDoor.Pure
open Go.RowKit Go.Proofs.YtmimipgmhgalaaaGreatDoorW.PrintWords Go.Proofs.YtmimipgmhgalaaaGreatDoor.Plain Go.Proofs.YtmimipgmhgalaaaGreatDoor.Spec Go.Proofs.YtmimipgmhgalaaaGreatDoor.PAll
set_option linter.unusedSimpArgs false
set_option linter.unusedVariables false
theorem sumj_len (l : List ByteArray) : (joinedL l).length ≤ (l.map fun y => (y.size + 1)).sum ∧ l.length ≤ (l.map fun y => (y.size + 1)).sum := by
  have h2 : l.length ≤ (l.map fun y => (y.size + 1)).sum ∧ ∀ r : List ByteArray, (Lib.joinTail [32] (r.map (·.data.toList))).length ≤ (r.map fun y => (y.size + 1)).sum := by
    constructor
    · induction l with
      | nil => simp
      | cons x r ih => simp only [List.map_cons, List.sum_cons, List.length_cons]; omega
    · intro r
      induction r with
      | nil => simp [Lib.joinTail]
      | cons x r ih =>
        have e : (Lib.joinTail [32] ((x :: r).map (·.data.toList))).length = 1 + x.data.toList.length + (Lib.joinTail [32] (r.map (·.data.toList))).length := by
          unfold Lib.joinTail
          rw [List.map_cons, List.map_cons, List.flatten_cons, List.length_append, List.length_append]
          rfl
        have hx : x.data.toList.length = x.size := data_len _
        rw [e]
        simp only [List.map_cons, List.sum_cons]
        omega
  refine ⟨?_, h2.1⟩
  cases l with
  | nil => simp [joinedL, Lib.join_nil]
  | cons x r =>
    have h3 := h2.2 r
    have hx : x.data.toList.length = x.size := data_len _
    unfold joinedL
    rw [List.map_cons, Lib.join_cons, List.length_append]
    simp only [List.map_cons, List.sum_cons]
    omega
theorem ours_eq (i s : ByteArray) (gr : Int) (pg : Bool) (u : ByteArray) (sc : List ByteArray) (h : sc.length < 8796093022208) : wicketlaw11_ours.f i s gr pg u sc = some (i, s, gr, pg, u, sc) := by
  unfold wicketlaw11_ours.f
  rw [Option.bind_some, if_pos (by simpa using h)]
  rfl
theorem theirs_eq (i s : ByteArray) (gr : Int) (pg : Bool) (u : ByteArray) (sc : List ByteArray) (h : sc.length < 8796093022208) : wicketlaw11_theirs.f i s gr pg u sc = some (i, s, gr, pg, u, sc) := by
  unfold wicketlaw11_theirs.f
  rw [Option.bind_some, if_pos (by simpa using h)]
  rfl
def askL (a : ByteArray) : List ByteArray := (scopesL a.data.toList).1.map bs
theorem sum_le_mul {α : Type} (g : α → Nat) (b : Nat) : ∀ l : List α, (∀ x ∈ l, g x ≤ b) → (l.map g).sum ≤ l.length * b
  | [], _ => by simp
  | x :: r, h => by
    have h1 := sum_le_mul g b r (fun y hy => h y (by simp [hy]))
    have h2 := h x (by simp)
    simp only [List.map_cons, List.sum_cons, List.length_cons, Nat.succ_mul]
    omega
theorem scopesL_len32 (l : List UInt8) : (scopesL l).1.length ≤ 32 := by
  unfold scopesL
  split
  · simp
  · split
    · simp
    · split
      · simp
      · split
        · simp
        · rename_i h; show (setL (splitL 32 l)).length ≤ 32; omega
theorem askL_len (a : ByteArray) : (askL a).length ≤ 32 := by unfold askL; rw [List.length_map]; exact scopesL_len32 _
theorem askL_join (a : ByteArray) : (joinedL (askL a)).length ≤ 10000 := by
  by_cases h : (scopesL a.data.toList).2 = 0
  · have hf := (scopesL_facts _ h).2
    have h1 := (sumj_len (askL a)).1
    have h2 := sum_le_mul (fun y : ByteArray => y.size + 1) 257 (askL a) (fun x hx => by
      unfold askL at hx
      obtain ⟨p, hp, rfl⟩ := List.mem_map.1 hx
      rw [bs_size]
      have := (hf p hp).2
      omega)
    have h3 := askL_len a
    have h4 : (askL a).length * 257 ≤ 32 * 257 := Nat.mul_le_mul_right _ h3
    omega
  · unfold askL
    rw [scopesL_err _ h]
    simp [joinedL, Lib.join_nil]
attribute [local instance] Classical.propDecidable
theorem uw (l all : List ByteArray) (hl : l.length ≤ 8796093021952) (ha : all.length ≤ 8796093021952) : Ev (fun k => urlform_Within.f k l all) (decide (∀ x ∈ l, x ∈ all)) := by
  unfold urlform_Within.f
  exact Ev.eq (uwithin_ev l all hl ha l.length 0 (by omega)) (by rw [Bool.eq_iff_iff]; simp)
theorem rw_ (l all : List ByteArray) (hl : l.length ≤ 8796093021952) (ha : all.length ≤ 8796093021952) : Ev (fun k => wicketref03_Within.f k l all) (decide (∀ x ∈ l, x ∈ all)) := by
  unfold wicketref03_Within.f
  exact Ev.eq (rwithin_ev l all hl ha l.length 0 (by omega)) (by rw [Bool.eq_iff_iff]; simp)
/-- What a client may have of what it asks for. -/
noncomputable def scopeR (sc : List ByteArray) (a : ByteArray) : ByteArray × Int :=
  if a = ⟨#[]⟩ then (bs (joinedL sc), 0) else if (scopesL a.data.toList).2 = 0 ∧ (∀ x ∈ askL a, x ∈ sc) then (bs (joinedL (askL a)), 0) else (⟨#[]⟩, 114)
theorem join_eq (l : List ByteArray) (hl : l.length ≤ 140737488355328) (hj : (joinedL l).length ≤ 140737488355328) : strings_Join.f l (⟨#[32]⟩ : ByteArray) = some (bs (joinedL l)) := by
  unfold strings_Join.f
  rw [if_pos ⟨hl, hj⟩]
  rfl
theorem empty_data (a : ByteArray) (h : a = ⟨#[]⟩) : a.data.toList = [] := by rw [h]
theorem scope_ev (i s : ByteArray) (gr : Int) (pg : Bool) (u : ByteArray) (sc : List ByteArray) (a : ByteArray) (hn : sc.length ≤ 8796093021952) (hj : (joinedL sc).length ≤ 140737488355328) :
    Ev (fun k => client_Scope.f k i s gr pg u sc a) (scopeR sc a) := by
  unfold client_Scope.f
  have hal := askL_len a
  have haj := askL_join a
  refine Ev.bind (scopes_ev a) ?_
  show Ev (fun n => if (scopesL a.data.toList).2 = 0 then ((urlform_Within.f n (meantS sc a (askL a)) sc).bind fun b => if b = true then ((strings_Join.f (meantS sc a (askL a)) ⟨#[32]⟩).bind fun s => some (s, 0)) else some (⟨#[]⟩, 114)) else some (⟨#[]⟩, 114)) _
  unfold scopeR
  by_cases h0 : a = ⟨#[]⟩
  · rw [if_pos h0]
    have hd : (scopesL a.data.toList).2 = 0 := by rw [empty_data a h0]; rfl
    have hm : meantS sc a (askL a) = sc := if_pos h0
    rw [hm]
    refine Ev.pos hd (Ev.bind (uw sc sc hn hn) ?_)
    rw [decide_eq_true (show ∀ x ∈ sc, x ∈ sc from fun x hx => hx), join_eq sc (by omega) hj]
    exact Ev.pos rfl (Ev.now _)
  · rw [if_neg h0]
    have hm : meantS sc a (askL a) = askL a := if_neg h0
    rw [hm]
    by_cases h1 : (scopesL a.data.toList).2 = 0
    · refine Ev.pos h1 (Ev.bind (uw (askL a) sc (by omega) hn) ?_)
      by_cases h2 : ∀ x ∈ askL a, x ∈ sc
      · rw [decide_eq_true h2, join_eq _ (by omega) (by omega)]
        exact Ev.pos rfl (Ev.eq (Ev.now _) (by rw [if_pos ⟨h1, h2⟩]))
      · rw [decide_eq_false h2]
        exact Ev.neg (by simp) (Ev.eq (Ev.now _) (by rw [if_neg (fun h => h2 h.2)]))
    · exact Ev.neg h1 (Ev.eq (Ev.now _) (by rw [if_neg (fun h => h1 h.1)]))
end Go.Proofs.YtmimipgmhgalaaaGreatDoor.Pure
