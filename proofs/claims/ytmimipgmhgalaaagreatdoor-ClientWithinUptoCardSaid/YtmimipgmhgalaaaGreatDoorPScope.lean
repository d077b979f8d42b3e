/-
  Lists of scopes: plain facts (as in the forms' own texts).
-/
import Derived.Test.YtmimipgmhgalaaaGreatDoorSpec03d
import Derived.Test.YtmimipgmhgalaaaGreatDoorPlain
namespace Go.Proofs.YtmimipgmhgalaaaGreatDoor.Pure
open Go.RowKit Go.Proofs.YtmimipgmhgalaaaGreatDoorW.PrintWords Go.Proofs.YtmimipgmhgalaaaGreatDoor.Plain Go.Proofs.YtmimipgmhgalaaaGreatDoor.Spec
set_option linter.unusedSimpArgs false
set_option linter.unusedVariables false
theorem scopesL_facts (l : List UInt8) (h : (scopesL l).2 = 0) : Rising (scopesL l).1 ∧ ∀ p ∈ (scopesL l).1, badP p = false ∧ p.length ≤ 256 := by
  unfold scopesL at h ⊢
  by_cases h1 : 256 < l.length
  · rw [if_pos h1] at h; simp at h
  · rw [if_neg h1] at h ⊢
    by_cases h2 : l = []
    · rw [if_pos h2]; exact ⟨List.Pairwise.nil, by simp⟩
    · rw [if_neg h2] at h ⊢
      by_cases h3 : (splitL 32 l).any badP = true
      · rw [if_pos h3] at h; simp at h
      · rw [if_neg h3] at h ⊢
        by_cases h4 : 32 < (setL (splitL 32 l)).length
        · rw [if_pos h4] at h; simp at h
        · rw [if_neg h4]
          refine ⟨setL_rising _, fun p hp => ?_⟩
          rw [setL_mem] at hp
          have hw := widthL_mem _ _ hp
          rw [splitL_width] at hw
          refine ⟨?_, by omega⟩
          rw [Bool.not_eq_true, List.any_eq_false] at h3
          simpa using h3 p hp
theorem scopesL_err (l : List UInt8) (h : (scopesL l).2 ≠ 0) : (scopesL l).1 = [] := by
  unfold scopesL at h ⊢
  by_cases h1 : 256 < l.length
  · rw [if_pos h1]
  · rw [if_neg h1] at h ⊢
    by_cases h2 : l = []
    · rw [if_pos h2]
    · rw [if_neg h2] at h ⊢
      by_cases h3 : (splitL 32 l).any badP = true
      · rw [if_pos h3]
      · rw [if_neg h3] at h ⊢
        by_cases h4 : 32 < (setL (splitL 32 l)).length
        · rw [if_pos h4]
        · rw [if_neg h4] at h; simp at h
/-- The scopes of a list's own texts, joined. -/
theorem scopesL_join (L Q : List (List UInt8)) (hr : Rising L) (hb : ∀ p ∈ L, badP p = false) (h0 : Q ≠ []) (hs : ∀ x, x ∈ Q ↔ x ∈ L) (hl : L.length ≤ 32) :
    (256 < (joinL Q).length → (scopesL (joinL Q)).2 = 1) ∧ ((joinL Q).length ≤ 256 → scopesL (joinL Q) = (L, 0)) := by
  have h32 : ∀ p ∈ Q, 32 ∉ p := by
    intro p hp hm
    have := hb p ((hs p).1 hp)
    unfold badP at this
    rw [Bool.or_eq_false_iff, List.any_eq_false] at this
    have h2 := this.2 32 hm
    rw [letter_space] at h2
    simp at h2
  have hsp := splitL_join Q h0 h32
  refine ⟨fun h => ?_, fun h => ?_⟩
  · unfold scopesL; rw [if_pos h]
  · unfold scopesL
    rw [if_neg (by omega), hsp]
    have hset : setL Q = L := by rw [setL_same hs, setL_of_rising hr]
    have hne : joinL Q ≠ [] := by
      intro e
      rw [e] at hsp
      have : Q = [[]] := hsp.symm
      have hm : ([] : List UInt8) ∈ L := (hs []).1 (by rw [this]; simp)
      have := hb [] hm
      simp [badP] at this
    have hany : ¬ Q.any badP = true := by
      rw [Bool.not_eq_true, List.any_eq_false]
      intro p hp
      rw [hb p ((hs p).1 hp)]
      simp
    rw [if_neg hne, if_neg hany, hset, if_neg (by omega)]
end Go.Proofs.YtmimipgmhgalaaaGreatDoor.Pure
