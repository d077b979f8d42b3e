/-
  Codes on lists of naturals: what is fed, what is drawn, how a code is shown and read; plain laws, no program.
-/
import Derived.KernelRfl
namespace Go.Proofs.YtaeipffenlkjpaaDoor.Cod
set_option linter.unusedVariables false
set_option linter.unusedSimpArgs false
/-- The twenty letters. -/
def lets : List Nat := [66, 67, 68, 70, 71, 72, 74, 75, 76, 77, 78, 80, 81, 82, 83, 84, 86, 87, 88, 90]
def fed (L p : List Nat) : List Nat := L ++ p.take (4096 - L.length)
theorem fed_len (L p : List Nat) (h : L.length ≤ 4096) : (fed L p).length ≤ 4096 := by
  unfold fed
  rw [List.length_append, List.length_take]
  omega
theorem fed_all {L p : List Nat} (hL : ∀ x ∈ L, x < 256) (hp : ∀ x ∈ p, x < 256) : ∀ x ∈ fed L p, x < 256 := by
  intro x hx
  rcases List.mem_append.1 hx with h | h
  · exact hL x h
  · exact hp x (List.mem_of_mem_take h)
theorem fed_two (a b : List Nat) (h : a.length + b.length ≤ 4096) : fed (fed [] a) b = a ++ b := by
  have e : fed [] a = a := by
    unfold fed
    rw [List.nil_append, List.take_of_length_le (by simp; omega)]
  rw [e]
  unfold fed
  rw [List.take_of_length_le (by omega)]
theorem fed_one (a : List Nat) (h : a.length ≤ 4096) : fed [] a = a := by
  unfold fed
  rw [List.nil_append, List.take_of_length_le (by simp; omega)]
theorem fed_take (a : List Nat) : fed [] a = a.take 4096 := by
  unfold fed
  rw [List.nil_append]
  rfl
/-- A user code out of bytes: the code, the error's number, what is left. -/
def user : List Nat → List Nat → List Nat × Nat × List Nat
  | _, [] => ([], 90, [])
  | acc, c :: L => if c < 240 then (if acc.length = 7 then (acc ++ [lets.getD (c % 20) 0], 0, L) else user (acc ++ [lets.getD (c % 20) 0]) L) else user acc L
theorem user_le (acc L : List Nat) : (user acc L).2.2.length ≤ L.length := by
  induction L generalizing acc with
  | nil => simp [user]
  | cons c L ih =>
    unfold user
    rw [List.length_cons]
    split
    · split
      · exact Nat.le_succ _
      · exact Nat.le_succ_of_le (ih (acc ++ [lets.getD (c % 20) 0]))
    · exact Nat.le_succ_of_le (ih acc)
theorem user_rest (acc L : List Nat) : ∀ x ∈ (user acc L).2.2, x ∈ L := by
  induction L generalizing acc with
  | nil => simp [user]
  | cons c L ih =>
    unfold user
    intro x hx
    split at hx
    · split at hx
      · exact List.mem_cons_of_mem _ hx
      · exact List.mem_cons_of_mem _ (ih _ x hx)
    · exact List.mem_cons_of_mem _ (ih _ x hx)
def isCode (s : List Nat) : Bool := decide (s.length = 8) && s.all fun x => decide (x ∈ lets)
theorem lets_at : ∀ k, k < 20 → lets.getD k 0 ∈ lets := by decide
theorem lets_mod (c : Nat) : lets.getD (c % 20) 0 ∈ lets := lets_at _ (Nat.mod_lt _ (by decide))
theorem user_code (acc L : List Nat) (h7 : acc.length ≤ 7) (ha : ∀ x ∈ acc, x ∈ lets) (h : (user acc L).2.1 = 0) : isCode (user acc L).1 = true := by
  induction L generalizing acc with
  | nil => simp [user] at h
  | cons c L ih =>
    have hb : ∀ x ∈ acc ++ [lets.getD (c % 20) 0], x ∈ lets := by
      intro x hx
      rcases List.mem_append.1 hx with hx | hx
      · exact ha x hx
      · rw [List.mem_singleton.1 hx]; exact lets_mod c
    unfold user at h ⊢
    split at h
    · rename_i hc
      rw [if_pos hc]
      split at h
      · rename_i h8
        rw [if_pos h8]
        unfold isCode
        rw [Bool.and_eq_true, List.all_eq_true]
        exact ⟨decide_eq_true (by show (acc ++ _).length = 8; simp; omega), fun x hx => decide_eq_true (hb x hx)⟩
      · rename_i h8
        rw [if_neg h8]
        exact ih _ (by simp; omega) hb h
    · rename_i hc
      rw [if_neg hc]
      exact ih _ h7 ha h
theorem user_err (acc L : List Nat) : ((user acc L).2.1 = 0) ∨ ((user acc L).2.1 = 90 ∧ (user acc L).1 = [] ∧ (user acc L).2.2 = []) := by
  induction L generalizing acc with
  | nil => exact .inr ⟨rfl, rfl, rfl⟩
  | cons c L ih =>
    unfold user
    split
    · split
      · exact .inl rfl
      · exact ih _
    · exact ih _
/-- Bytes that mean given letters, as they are drawn. -/
theorem user_all (acc : List Nat) (ks : List Nat) (rest : List Nat) (hk : ∀ k ∈ ks, k < 240) (hl : acc.length + ks.length = 8) (h0 : 0 < ks.length) :
    user acc (ks ++ rest) = (acc ++ ks.map (fun k => lets.getD (k % 20) 0), 0, rest) := by
  induction ks generalizing acc with
  | nil => simp at h0
  | cons k ks ih =>
    rw [List.cons_append]
    unfold user
    rw [if_pos (hk k (by simp))]
    rw [List.length_cons] at hl
    by_cases h8 : acc.length = 7
    · have e : ks = [] := List.eq_nil_of_length_eq_zero (by omega)
      subst e
      rw [if_pos h8]
      rfl
    · rw [if_neg h8, ih (acc ++ [lets.getD (k % 20) 0]) (fun x hx => hk x (by simp [hx])) (by simp; omega) (by omega)]
      simp
/-- How a code is shown. -/
def shown (s : List Nat) : List Nat := if isCode s = true then s.take 4 ++ [45] ++ s.drop 4 else []
def marks : List Nat := [32, 45, 95, 46, 47]
def up (c : Nat) : Nat := if 97 ≤ c ∧ c ≤ 122 then c - 32 else c
/-- What is left of a typed text. -/
def core (t : List Nat) : List Nat := (t.filter fun c => decide (c ∉ marks)).map up
def normal (t : List Nat) : List Nat × Nat := if 64 < t.length then ([], 1) else if isCode (core t) = true then (core t, 0) else ([], 91)
theorem core_app (a b : List Nat) : core (a ++ b) = core a ++ core b := by simp [core]
theorem core_nil : core [] = [] := rfl
theorem core_cons (c : Nat) (t : List Nat) : core (c :: t) = (if c ∈ marks then [] else [up c]) ++ core t := by
  unfold core
  by_cases h : c ∈ marks <;> simp [h]
theorem core_len (t : List Nat) : (core t).length ≤ t.length := by
  unfold core
  rw [List.length_map]
  exact List.length_filter_le _ _
theorem let_plain : ∀ c ∈ lets, c ∉ marks ∧ up c = c ∧ c + 32 ∉ marks ∧ up (c + 32) = c := by decide
theorem core_code (s : List Nat) (h : ∀ x ∈ s, x ∈ lets) : core s = s := by
  induction s with
  | nil => rfl
  | cons c s ih =>
    have hc := let_plain c (h c (by simp))
    rw [core_cons, if_neg hc.1, hc.2.1, ih fun x hx => h x (by simp [hx])]
    rfl
theorem isCode_spec {s : List Nat} : isCode s = true ↔ s.length = 8 ∧ ∀ x ∈ s, x ∈ lets := by
  unfold isCode
  rw [Bool.and_eq_true, List.all_eq_true, decide_eq_true_eq]
  constructor
  · intro h
    exact ⟨h.1, fun x hx => of_decide_eq_true (h.2 x hx)⟩
  · intro h
    exact ⟨h.1, fun x hx => decide_eq_true (h.2 x hx)⟩
theorem normal_of (t s : List Nat) (ht : t.length ≤ 64) (hs : isCode s = true) (h : core t = s) : normal t = (s, 0) := by
  unfold normal
  rw [if_neg (by omega), h, if_pos hs]
theorem normal_code (s : List Nat) (hs : isCode s = true) : normal s = (s, 0) := by
  have h := isCode_spec.1 hs
  exact normal_of s s (by omega) hs (core_code s h.2)
theorem normal_shown (s : List Nat) (hs : isCode s = true) : normal (shown s) = (s, 0) := by
  have h := isCode_spec.1 hs
  unfold shown
  rw [if_pos hs]
  refine normal_of _ s (by simp; omega) hs ?_
  rw [core_app, core_app, core_code _ fun x hx => h.2 x (List.mem_of_mem_take hx), core_code _ fun x hx => h.2 x (List.mem_of_mem_drop hx)]
  show s.take 4 ++ [] ++ s.drop 4 = s
  rw [List.append_nil, List.take_append_drop]
/-- A code as somebody types it. -/
def one (c k : Nat) : List Nat := (if k / 2 % 3 = 1 then [marks.getD (k / 8 % 5) 0] else []) ++ [if k % 2 = 1 then c + 32 else c] ++ (if k / 2 % 3 = 2 then [32, 45] else [])
def mks : List Nat := [32, 45, 95, 46, 47]
theorem marks_at : ∀ k, k < 5 → marks.getD k 0 ∈ marks := by decide
theorem core_one (c k : Nat) (hc : c ∈ lets) : core (one c k) = [c] := by
  have h := let_plain c hc
  unfold one
  rw [core_app, core_app]
  have e1 : core (if k / 2 % 3 = 1 then [marks.getD (k / 8 % 5) 0] else []) = [] := by
    split
    · rw [core_cons, if_pos (marks_at _ (Nat.mod_lt _ (by decide)))]; rfl
    · rfl
  have e2 : core [if k % 2 = 1 then c + 32 else c] = [c] := by
    split
    · rw [core_cons, if_neg h.2.2.1, h.2.2.2]; rfl
    · rw [core_cons, if_neg h.1, h.2.1]; rfl
  have e3 : core (if k / 2 % 3 = 2 then [32, 45] else []) = [] := by
    split <;> rfl
  rw [e1, e2, e3]
  rfl
theorem one_len (c k : Nat) : (one c k).length ≤ 3 := by
  unfold one
  rw [List.length_append, List.length_append]
  have h3 : ∀ m : Nat, (if m = 1 then [marks.getD (k / 8 % 5) 0] else []).length + [if k % 2 = 1 then c + 32 else c].length + (if m = 2 then [32, 45] else []).length ≤ 3 := by
    intro m
    by_cases h1 : m = 1
    · subst h1
      rw [if_pos rfl, if_neg (show ¬ (1 : Nat) = 2 by decide)]
      simp
    · rw [if_neg h1]
      by_cases h2 : m = 2
      · rw [if_pos h2]; simp
      · rw [if_neg h2]; simp
  exact h3 _
/-- The letters from place i on, typed. -/
def typedL (how : List Nat) : List Nat → Nat → List Nat
  | [], _ => []
  | c :: s, i => one c (if how.length = 0 then 0 else how.getD (i % how.length) 0) ++ typedL how s (i + 1)
theorem core_typed (how : List Nat) : ∀ (s : List Nat) (i : Nat), (∀ x ∈ s, x ∈ lets) → core (typedL how s i) = s
  | [], i, _ => rfl
  | c :: s, i, h => by
    unfold typedL
    rw [core_app, core_one c _ (h c (by simp)), core_typed how s (i + 1) fun x hx => h x (by simp [hx])]
    rfl
theorem typed_len (how : List Nat) : ∀ (s : List Nat) (i : Nat), (typedL how s i).length ≤ 3 * s.length
  | [], i => by simp [typedL]
  | c :: s, i => by
    unfold typedL
    rw [List.length_append, List.length_cons]
    have := one_len c (if how.length = 0 then 0 else how.getD (i % how.length) 0)
    have := typed_len how s (i + 1)
    omega
theorem normal_typed (how s : List Nat) (hs : isCode s = true) : normal (typedL how s 0) = (s, 0) := by
  have h := isCode_spec.1 hs
  exact normal_of _ s (by have := typed_len how s 0; omega) hs (core_typed how s 0 h.2)
end Go.Proofs.YtaeipffenlkjpaaDoor.Cod
