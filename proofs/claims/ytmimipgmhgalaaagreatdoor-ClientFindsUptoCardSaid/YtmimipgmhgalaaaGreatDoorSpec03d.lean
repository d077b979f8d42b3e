/-
  Lists of scopes, on lists of bytes: rising lists, one text once: plain Lean, no program in sight.
-/
import Derived.Test.YtmimipgmhgalaaaGreatDoorSpec03c
namespace Go.Proofs.YtmimipgmhgalaaaGreatDoor.Spec
def letterB (c : UInt8) : Bool := decide ((c.toNat : Int) = 33 ∨ (35 ≤ (c.toNat : Int) ∧ (c.toNat : Int) ≤ 91) ∨ (93 ≤ (c.toNat : Int) ∧ (c.toNat : Int) ≤ 126))
def Rising (l : List (List UInt8)) : Prop := l.Pairwise (· < ·)
theorem rising_nodup {l : List (List UInt8)} (h : Rising l) : l.Nodup := by
  unfold List.Nodup
  refine List.Pairwise.imp (fun {x y} hxy => ?_) h
  rintro rfl
  exact List.lt_irrefl x hxy
theorem rising_ext {a b : List (List UInt8)} (ha : Rising a) (hb : Rising b) (h : ∀ x, x ∈ a ↔ x ∈ b) : a = b := by
  have na := rising_nodup ha
  have nb := rising_nodup hb
  exact List.Perm.eq_of_pairwise (fun x y _ _ h1 h2 => absurd (List.lt_trans h1 h2) (List.lt_irrefl x)) ha hb ((List.perm_ext_iff_of_nodup na nb).2 h)
/-- A text into a rising list, once. -/
def putL : List (List UInt8) → List UInt8 → List (List UInt8)
  | [], s => [s]
  | x :: r, s => if x = s then x :: r else if s < x then s :: x :: r else x :: putL r s
theorem putL_mem (s : List UInt8) : ∀ (l : List (List UInt8)) (x : List UInt8), x ∈ putL l s ↔ x = s ∨ x ∈ l
  | [], x => by simp [putL]
  | y :: r, x => by
    unfold putL
    split
    · rename_i h; subst h; simp
    · split
      · simp
      · rw [List.mem_cons, putL_mem s r x, List.mem_cons]
        constructor
        · rintro (h | h | h)
          · exact .inr (.inl h)
          · exact .inl h
          · exact .inr (.inr h)
        · rintro (h | h | h)
          · exact .inr (.inl h)
          · exact .inl h
          · exact .inr (.inr h)
theorem putL_rising (s : List UInt8) : ∀ l, Rising l → Rising (putL l s)
  | [], _ => by simp [putL, Rising]
  | y :: r, h => by
    have h1 := List.pairwise_cons.1 h
    unfold putL
    split
    · exact h
    · rename_i hne
      split
      · rename_i hlt
        refine List.pairwise_cons.2 ⟨fun z hz => ?_, h⟩
        rcases List.mem_cons.1 hz with rfl | hz
        · exact hlt
        · exact List.lt_trans hlt (h1.1 z hz)
      · rename_i hnl
        refine List.pairwise_cons.2 ⟨fun z hz => ?_, putL_rising s r h1.2⟩
        rcases (putL_mem s r z).1 hz with rfl | hz
        · have hle := List.not_lt.1 hnl
          exact Classical.byContradiction fun hc => hne (List.le_antisymm hle (List.not_lt.1 hc))
        · exact h1.1 z hz
theorem putL_len (s : List UInt8) : ∀ l : List (List UInt8), (putL l s).length ≤ l.length + 1
  | [] => by simp [putL]
  | y :: r => by
    have := putL_len s r
    unfold putL
    split
    · simp
    · split
      · simp
      · simp only [List.length_cons]; omega
def setL (ps : List (List UInt8)) : List (List UInt8) := ps.foldl putL []
theorem fold_mem : ∀ (ps acc : List (List UInt8)) (x : List UInt8), x ∈ ps.foldl putL acc ↔ x ∈ acc ∨ x ∈ ps
  | [], acc, x => by simp
  | p :: ps, acc, x => by
    rw [List.foldl_cons, fold_mem ps, putL_mem, List.mem_cons]
    constructor
    · rintro ((h | h) | h)
      · exact .inr (.inl h)
      · exact .inl h
      · exact .inr (.inr h)
    · rintro (h | h | h)
      · exact .inl (.inr h)
      · exact .inl (.inl h)
      · exact .inr h
theorem fold_rising : ∀ (ps acc : List (List UInt8)), Rising acc → Rising (ps.foldl putL acc)
  | [], _, h => h
  | p :: ps, acc, h => fold_rising ps _ (putL_rising p acc h)
theorem setL_mem (ps : List (List UInt8)) (x : List UInt8) : x ∈ setL ps ↔ x ∈ ps := by unfold setL; rw [fold_mem]; simp
theorem setL_rising (ps : List (List UInt8)) : Rising (setL ps) := fold_rising ps [] List.Pairwise.nil
theorem setL_same {ps qs : List (List UInt8)} (h : ∀ x, x ∈ ps ↔ x ∈ qs) : setL ps = setL qs :=
  rising_ext (setL_rising ps) (setL_rising qs) fun x => by rw [setL_mem, setL_mem]; exact h x
theorem setL_of_rising {ps : List (List UInt8)} (h : Rising ps) : setL ps = ps := rising_ext (setL_rising ps) h fun x => setL_mem ps x
section
open Lib
/-- Sorted and compacted: the rising list. -/
theorem compact_mem (zs : List (List UInt8)) (x : List UInt8) : x ∈ compact zs ↔ x ∈ zs := by
  unfold compact compactUpTo
  simp only [List.mem_map, List.mem_filter, List.mem_range]
  constructor
  · rintro ⟨i, ⟨hi, _⟩, rfl⟩
    have : zs.toArray[i]! = zs[i] := by simp [hi]
    rw [this]
    exact List.getElem_mem hi
  · intro hx
    obtain ⟨i, hi, rfl⟩ := List.getElem_of_mem hx
    suffices H : ∀ n i (hi : i < zs.length), i ≤ n → ∃ a, (a < zs.length ∧ keeps zs.toArray a = true) ∧ zs.toArray[a]! = zs[i] from H i i hi (Nat.le_refl _)
    intro n
    induction n with
    | zero =>
      intro i hi h0
      obtain rfl : i = 0 := by omega
      exact ⟨0, ⟨hi, by simp [keeps]⟩, by simp [hi]⟩
    | succ n ih =>
      intro i hi hn
      by_cases hk : keeps zs.toArray i = true
      · exact ⟨i, ⟨hi, hk⟩, by simp [hi]⟩
      · unfold keeps at hk
        simp only [decide_eq_true_eq, not_or, Decidable.not_not] at hk
        obtain ⟨h0, he⟩ := hk
        obtain ⟨a, ha, hb⟩ := ih (i - 1) (by omega) (by omega)
        refine ⟨a, ha, hb.trans ?_⟩
        have e1 : zs.toArray[i]! = zs[i] := by simp [hi]
        have e2 : zs.toArray[i - 1]! = zs[i - 1] := by simp [show i - 1 < zs.length by omega]
        rw [← e2, ← e1]; exact he.symm
theorem compact_rising (zs : List (List UInt8)) (h : zs.Pairwise (· ≤ ·)) : Rising (compact zs) := by
  unfold compact compactUpTo Rising
  rw [List.pairwise_map, List.pairwise_filter]
  refine List.Pairwise.imp_of_mem ?_ (List.pairwise_lt_range (n := zs.length))
  intro a b ha hb hab _ hkb
  have ha' : a < zs.length := List.mem_range.1 ha
  have hb' : b < zs.length := List.mem_range.1 hb
  have e1 : zs.toArray[a]! = zs[a] := by simp [ha']
  have e2 : zs.toArray[b]! = zs[b] := by simp [hb']
  have e3 : zs.toArray[b - 1]! = zs[b - 1] := by simp [show b - 1 < zs.length by omega]
  rw [e1, e2]
  unfold keeps at hkb
  simp only [decide_eq_true_eq] at hkb
  rw [e2, e3] at hkb
  have hne := hkb.resolve_left (by omega)
  have hle : zs[a] ≤ zs[b - 1] := by
    by_cases hc : a = b - 1
    · subst hc; exact List.le_refl _
    · exact List.pairwise_iff_getElem.1 h a (b - 1) _ _ (by omega)
  have hle2 : zs[b - 1] ≤ zs[b] := List.pairwise_iff_getElem.1 h (b - 1) b _ _ (by omega)
  refine Classical.byContradiction fun hc => hne ?_
  exact (List.le_antisymm hle2 (List.le_trans (List.not_lt.1 hc) hle)).symm
theorem compact_sort (zs : List (List UInt8)) : compact (zs.mergeSort fun x y => decide (x ≤ y)) = setL zs := by
  have hs : (zs.mergeSort fun x y => decide (x ≤ y)).Pairwise (· ≤ ·) := by
    have := List.pairwise_mergeSort (le := fun x y : List UInt8 => decide (x ≤ y)) (fun a b c h1 h2 => by simp only [decide_eq_true_eq] at *; exact List.le_trans h1 h2) (fun a b => by simp only [Bool.or_eq_true, decide_eq_true_eq]; exact List.le_total a b) zs
    exact this.imp fun {x y} h => by simpa using h
  refine rising_ext (compact_rising _ hs) (setL_rising zs) fun x => ?_
  rw [compact_mem, setL_mem]
  exact (List.mergeSort_perm zs _).mem_iff
end
/-- A piece that is none of a scope's. -/
def badP (p : List UInt8) : Bool := p.isEmpty || p.any fun c => !letterB c
/-- The scopes of a text, or the error. -/
def scopesL (l : List UInt8) : List (List UInt8) × Int :=
  if 256 < l.length then ([], 1) else if l = [] then ([], 0) else if (splitL 32 l).any badP = true then ([], 33) else
    if 32 < (setL (splitL 32 l)).length then ([], 32) else (setL (splitL 32 l), 0)
theorem letter_space : letterB 32 = false := by decide
/-- Texts with one blank between. -/
def joinL : List (List UInt8) → List UInt8
  | [] => []
  | [p] => p
  | p :: q :: r => p ++ 32 :: joinL (q :: r)
theorem splitL_join : ∀ (ps : List (List UInt8)), ps ≠ [] → (∀ p ∈ ps, 32 ∉ p) → splitL 32 (joinL ps) = ps
  | [], h, _ => absurd rfl h
  | [p], _, h => splitL_whole 32 p (h p (by simp))
  | p :: q :: r, _, h => by
    rw [joinL, splitL_hit 32 _ _ (h p (by simp)), splitL_join (q :: r) (by simp) (fun x hx => h x (by simp at hx ⊢; exact .inr hx))]
theorem joinL_snoc (s : List UInt8) : ∀ ps : List (List UInt8), ps ≠ [] → joinL (ps ++ [s]) = joinL ps ++ 32 :: s
  | [], h => absurd rfl h
  | [p], _ => by simp [joinL]
  | p :: q :: r, _ => by
    have := joinL_snoc s (q :: r) (by simp)
    simp only [List.cons_append] at this
    simp [joinL, this]
end Go.Proofs.YtmimipgmhgalaaaGreatDoor.Spec
