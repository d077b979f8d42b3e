/-
  Splitting, cutting, pairs and lists of scopes, on lists of bytes: plain Lean, no program in sight.
-/
import Derived.Test.YtmimipgmhgalaaaGreatDoorSpec03
import Derived.Lib.SplitLaws
import Derived.Lib.IndexMore
import Derived.Lib.SlicesCompact
import Derived.Sort.Walk0
namespace Go.Proofs.YtmimipgmhgalaaaGreatDoor.Spec
def bs (l : List UInt8) : ByteArray := ⟨l.toArray⟩
theorem bs_data (l : List UInt8) : (bs l).data.toList = l := rfl
theorem bs_of (s : ByteArray) : bs s.data.toList = s := by cases s; simp [bs]
theorem bs_size (l : List UInt8) : (bs l).size = l.length := by simp [bs, ByteArray.size]
theorem data_len (s : ByteArray) : s.data.toList.length = s.size := by rw [Array.length_toList]; rfl
theorem bs_inj {a b : List UInt8} (h : bs a = bs b) : a = b := by have := congrArg (fun s : ByteArray => s.data.toList) h; simpa [bs] using this
theorem unescL_place : ∀ (n : Nat) (l : List UInt8), l.length ≤ n → ∀ (i : Nat) (acc : List UInt8), 0 ≤ (unescL l i acc).2.2 ∧ (unescL l i acc).2.2 ≤ (i + l.length : Int) ∧ 0 ≤ (unescL l i acc).2.1 ∧ (unescL l i acc).2.1 ≤ 31 ∧ (unescL l i acc).1.length ≤ acc.length + l.length
  | _, [], _, i, acc => by simp [unescL]
  | 0, c :: r, h, _, _ => by simp at h
  | n + 1, c :: r, h, i, acc => by
    simp only [List.length_cons] at h
    by_cases hb : (c.toNat : Int) < 33 ∨ 126 < (c.toNat : Int)
    · rw [unescL_bad _ _ _ _ hb]; simp only [List.length_nil]; omega
    · by_cases h1 : c = 43
      · rw [unescL_plus _ _ _ _ h1]
        have := unescL_place n r (by omega) (i + 1) (acc ++ [32])
        simp only [List.length_cons, List.length_append, List.length_nil] at this ⊢
        omega
      · by_cases h2 : c = 37
        · match r, h with
          | [], _ => rw [unescL_short _ _ _ _ h2 (by simp)]; simp; omega
          | [d], _ => rw [unescL_short _ _ _ _ h2 (by simp)]; simp; omega
          | d :: e :: r, h =>
            by_cases h3 : hexI d < 0 ∨ hexI e < 0
            · rw [unescL_nohex _ _ _ _ _ _ h2 h3]; simp only [List.length_nil, List.length_cons]; omega
            · rw [unescL_hex _ _ _ _ _ _ h2 h3]
              simp only [List.length_cons] at h
              have := unescL_place n r (by omega) (i + 3) (acc ++ [UInt8.ofNat (16 * hexI d + hexI e).toNat])
              simp only [List.length_cons, List.length_append, List.length_nil] at this ⊢
              omega
        · rw [unescL_keep _ _ _ _ hb h1 h2]
          have := unescL_place n r (by omega) (i + 1) (acc ++ [c])
          simp only [List.length_cons, List.length_append, List.length_nil] at this ⊢
          omega
/-- A text cut at every such byte. -/
def splitL (c : UInt8) : List UInt8 → List (List UInt8)
  | [] => [[]]
  | x :: r => if x = c then [] :: splitL c r else match splitL c r with
    | [] => [[x]]
    | p :: ps => (x :: p) :: ps
theorem splitL_ne (c : UInt8) : ∀ l, splitL c l ≠ []
  | [] => by simp [splitL]
  | x :: r => by
    unfold splitL
    split
    · simp
    · split <;> simp
theorem splitL_same (c : UInt8) (r : List UInt8) : splitL c (c :: r) = [] :: splitL c r := by simp [splitL]
theorem splitL_other (c x : UInt8) (r p : List UInt8) (ps : List (List UInt8)) (h : x ≠ c) (hp : splitL c r = p :: ps) : splitL c (x :: r) = (x :: p) :: ps := by simp [splitL, h, hp]
theorem splitL_append (c : UInt8) (b : List UInt8) : ∀ a, splitL c (a ++ c :: b) = splitL c a ++ splitL c b
  | [] => by simp [splitL]
  | x :: r => by
    have ih := splitL_append c b r
    by_cases h : x = c
    · subst h; rw [List.cons_append, splitL_same, splitL_same, ih, List.cons_append]
    · obtain ⟨p, ps, hp⟩ : ∃ p ps, splitL c r = p :: ps := by
        cases hr : splitL c r with
        | nil => exact absurd hr (splitL_ne c r)
        | cons p ps => exact ⟨p, ps, rfl⟩
      rw [List.cons_append, splitL_other c x _ p (ps ++ splitL c b) h (by rw [ih, hp]; rfl), splitL_other c x r p ps h hp, List.cons_append]
theorem splitL_whole (c : UInt8) : ∀ a : List UInt8, c ∉ a → splitL c a = [a]
  | [], _ => rfl
  | x :: r, h => by
    have h1 : x ≠ c := fun e => h (by simp [e])
    exact splitL_other c x r r [] h1 (splitL_whole c r (fun e => h (by simp [e])))
theorem splitL_hit (c : UInt8) (a b : List UInt8) (h : c ∉ a) : splitL c (a ++ c :: b) = a :: splitL c b := by
  rw [splitL_append, splitL_whole c a h]; rfl
theorem splitL_clean (c : UInt8) : ∀ (l p : List UInt8), p ∈ splitL c l → c ∉ p
  | [], p, hp => by simp [splitL] at hp; simp [hp]
  | x :: r, p, hp => by
    by_cases h : x = c
    · subst h
      rw [splitL_same, List.mem_cons] at hp
      rcases hp with rfl | hp
      · simp
      · exact splitL_clean x r p hp
    · obtain ⟨q, ps, hq⟩ : ∃ p ps, splitL c r = p :: ps := by
        cases hr : splitL c r with
        | nil => exact absurd hr (splitL_ne c r)
        | cons p ps => exact ⟨p, ps, rfl⟩
      rw [splitL_other c x r q ps h hq, List.mem_cons] at hp
      rcases hp with rfl | hp
      · have := splitL_clean c r q (by simp [hq])
        simp only [List.mem_cons, not_or]
        exact ⟨fun e => h e.symm, this⟩
      · exact splitL_clean c r p (by simp [hq, hp])
def widthL (ps : List (List UInt8)) : Nat := (ps.map fun p => p.length + 1).sum
theorem widthL_cons (p : List UInt8) (ps : List (List UInt8)) : widthL (p :: ps) = p.length + 1 + widthL ps := by simp [widthL]
theorem splitL_width (c : UInt8) : ∀ l : List UInt8, widthL (splitL c l) = l.length + 1
  | [] => by simp [splitL, widthL]
  | x :: r => by
    have ih := splitL_width c r
    by_cases h : x = c
    · subst h; rw [splitL_same, widthL_cons, ih]; simp; omega
    · obtain ⟨q, ps, hq⟩ : ∃ p ps, splitL c r = p :: ps := by
        cases hr : splitL c r with
        | nil => exact absurd hr (splitL_ne c r)
        | cons p ps => exact ⟨p, ps, rfl⟩
      rw [hq, widthL_cons] at ih
      rw [splitL_other c x r q ps h hq, widthL_cons]
      simp only [List.length_cons]
      omega
theorem count_width : ∀ ps : List (List UInt8), ps.length ≤ widthL ps
  | [] => Nat.zero_le _
  | p :: ps => by have := count_width ps; rw [widthL_cons, List.length_cons]; omega
theorem widthL_mem : ∀ (ps : List (List UInt8)) (p : List UInt8), p ∈ ps → p.length + 1 ≤ widthL ps
  | q :: ps, p, h => by
    rw [widthL_cons]
    rcases List.mem_cons.1 h with rfl | h
    · omega
    · have := widthL_mem ps p h; omega
/-- A text cut at the first such byte. -/
def cutL (c : UInt8) : List UInt8 → List UInt8 × List UInt8 × Bool
  | [] => ([], [], false)
  | x :: r => if x = c then ([], r, true) else (x :: (cutL c r).1, (cutL c r).2.1, (cutL c r).2.2)
theorem cutL_miss (c : UInt8) : ∀ l : List UInt8, c ∉ l → cutL c l = (l, [], false)
  | [], _ => rfl
  | x :: r, h => by
    have h1 : x ≠ c := fun e => h (by simp [e])
    have := cutL_miss c r (fun e => h (by simp [e]))
    simp [cutL, h1, this]
theorem cutL_hit (c : UInt8) (b : List UInt8) : ∀ a : List UInt8, c ∉ a → cutL c (a ++ c :: b) = (a, b, true)
  | [], _ => by simp [cutL]
  | x :: r, h => by
    have h1 : x ≠ c := fun e => h (by simp [e])
    have := cutL_hit c b r (fun e => h (by simp [e]))
    simp [cutL, h1, this]
theorem cutL_len (c : UInt8) : ∀ l : List UInt8, (cutL c l).1.length + (cutL c l).2.1.length ≤ l.length
  | [] => by simp [cutL]
  | x :: r => by
    have := cutL_len c r
    unfold cutL
    split
    · simp
    · simp only [List.length_cons]; omega
theorem indexByte_mem (c : UInt8) : ∀ l : List UInt8, (Lib.indexByte l c = -1 ↔ c ∉ l)
  | [] => by simp [Lib.indexByte]
  | x :: r => by
    have ih := indexByte_mem c r
    have hg := Lib.indexByte_ge r c
    unfold Lib.indexByte
    by_cases h : x = c
    · subst h; simp
    · have h2 : (x == c) = false := beq_eq_false_iff_ne.2 h
      rw [h2]
      by_cases h3 : Lib.indexByte r c = -1
      · simp [h3, Ne.symm h, ih.1 h3]
      · have h4 : (Lib.indexByte r c == -1) = false := beq_eq_false_iff_ne.2 h3
        have h5 : c ∈ r := Classical.byContradiction fun e => h3 (ih.2 e)
        simp [h4, h5]
        omega
theorem cut_cutL (c : UInt8) : ∀ l : List UInt8, Lib.cut l [c] = cutL c l
  | [] => by simp [Lib.cut, cutL, Lib.index]
  | x :: r => by
    have ih := cut_cutL c r
    unfold Lib.cut at ih ⊢
    rw [Lib.index_one] at ih ⊢
    have hg := Lib.indexByte_ge r c
    unfold Lib.indexByte cutL
    by_cases h : x = c
    · subst h; simp
    · have h2 : (x == c) = false := beq_eq_false_iff_ne.2 h
      rw [h2, if_neg h]
      rw [← ih]
      by_cases h3 : Lib.indexByte r c = -1
      · simp [h3]
      · have h4 : (Lib.indexByte r c == -1) = false := beq_eq_false_iff_ne.2 h3
        obtain ⟨j, hj⟩ : ∃ j : Nat, Lib.indexByte r c = j := ⟨(Lib.indexByte r c).toNat, by omega⟩
        rw [h4, hj]
        have e1 : ((j : Int) + 1).toNat = j + 1 := by omega
        have e2 : (0 : Int) ≤ (j : Int) + 1 := by omega
        have e3 : (0 : Int) ≤ (j : Int) := by omega
        simp [e1, e2, e3]
theorem splitK_splitL (c : UInt8) : ∀ l : List UInt8, Lib.splitK [c] 0 (l.count c) l = splitL c l
  | [] => rfl
  | x :: r => by
    have ih := splitK_splitL c r
    by_cases h : x = c
    · subst h
      rw [List.count_cons_self, splitL_same, Lib.splitK, Lib.index_one, Lib.indexByte]
      simp [ih]
    · rw [List.count_cons_of_ne h]
      by_cases h0 : c ∈ r
      · obtain ⟨k, hk⟩ : ∃ k, r.count c = k + 1 := ⟨r.count c - 1, by have := List.count_pos_iff.2 h0; omega⟩
        rw [hk, Lib.splitK, Lib.index_one] at ih ⊢
        have h3 : Lib.indexByte r c ≠ -1 := fun e => (indexByte_mem c r).1 e h0
        have hg := Lib.indexByte_ge r c
        have h4 : (Lib.indexByte r c == -1) = false := beq_eq_false_iff_ne.2 h3
        obtain ⟨j, hj⟩ : ∃ j : Nat, Lib.indexByte r c = j := ⟨(Lib.indexByte r c).toNat, by omega⟩
        have h2 : (x == c) = false := beq_eq_false_iff_ne.2 h
        have e0 : Lib.indexByte (x :: r) c = (j : Int) + 1 := by unfold Lib.indexByte; rw [h2, h4, hj]; simp
        have e5 : ((j : Int) + 1 == -1) = false := beq_eq_false_iff_ne.2 (by omega)
        have e6 : ((j : Int) == -1) = false := beq_eq_false_iff_ne.2 (by omega)
        have e1 : ((j : Int) + 1).toNat = j + 1 := by omega
        rw [hj, e6] at ih
        rw [e0, e5]
        simp only [Bool.false_eq_true, if_false, e1, Int.toNat_natCast, Nat.add_zero, List.length_singleton, List.take_succ_cons, List.drop_succ_cons] at ih ⊢
        exact (splitL_other c x r _ _ h ih.symm).symm
      · rw [List.count_eq_zero_of_not_mem h0]
        rw [splitL_whole c (x :: r) (by simp [h0, Ne.symm h])]
        rfl
/-- A piece of a form: its pair, or the error and its place. -/
def pairP (at_ : Nat) (p : List UInt8) : (ByteArray × ByteArray) × Int × Int :=
  if (unescL (cutL 61 p).1 0 []).2.1 = 0 then
    (if (unescL (cutL 61 p).2.1 0 []).2.1 = 0 then ((bs (unescL (cutL 61 p).1 0 []).1, bs (unescL (cutL 61 p).2.1 0 []).1), 0, 0)
    else ((⟨#[]⟩, ⟨#[]⟩), (unescL (cutL 61 p).2.1 0 []).2.1, at_ + (cutL 61 p).1.length + 1 + (unescL (cutL 61 p).2.1 0 []).2.2))
  else ((⟨#[]⟩, ⟨#[]⟩), (unescL (cutL 61 p).1 0 []).2.1, at_ + (unescL (cutL 61 p).1 0 []).2.2)
/-- The pieces of a form, from a place on: their pairs behind those that stand, or the first error and its place. -/
def parseL : List (List UInt8) → Nat → List (ByteArray × ByteArray) → List (ByteArray × ByteArray) × Int × Int
  | [], _, acc => (acc, 0, 0)
  | p :: r, i, acc => if p = [] then parseL r (i + 1) acc else if acc.length = 64 then ([], 32, i) else
    if (pairP i p).2.1 = 0 then parseL r (i + p.length + 1) (acc ++ [(pairP i p).1]) else ([], (pairP i p).2.1, (pairP i p).2.2)
theorem parseL_cons (p : List UInt8) (r : List (List UInt8)) (i : Nat) (acc : List (ByteArray × ByteArray)) : parseL (p :: r) i acc = if p = [] then parseL r (i + 1) acc else if acc.length = 64 then ([], 32, (i : Int)) else
    if (pairP i p).2.1 = 0 then parseL r (i + p.length + 1) (acc ++ [(pairP i p).1]) else ([], (pairP i p).2.1, (pairP i p).2.2) := rfl
def parse (l : List UInt8) : List (ByteArray × ByteArray) × Int × Int := if l.length > 16384 then ([], 1, 0) else parseL (splitL 38 l) 0 []
theorem parseL_len : ∀ (ps : List (List UInt8)) (i : Nat) (acc : List (ByteArray × ByteArray)), acc.length ≤ 64 → (parseL ps i acc).1.length ≤ 64
  | [], _, acc, h => h
  | p :: r, i, acc, h => by
    unfold parseL
    split
    · exact parseL_len r _ _ h
    · split
      · simp
      · split
        · exact parseL_len r _ _ (by rw [List.length_append, List.length_singleton]; omega)
        · simp
theorem parse_len (l : List UInt8) : (parse l).1.length ≤ 64 := by
  unfold parse
  split
  · simp
  · exact parseL_len _ _ _ (by simp)
theorem parseL_err : ∀ (ps : List (List UInt8)) (i : Nat) (acc : List (ByteArray × ByteArray)), (parseL ps i acc).2.1 ≠ 0 → (parseL ps i acc).1 = []
  | [], _, acc, h => absurd rfl h
  | p :: r, i, acc, h => by
    unfold parseL at h ⊢
    by_cases h1 : p = []
    · rw [if_pos h1] at h ⊢; exact parseL_err r _ _ h
    · rw [if_neg h1] at h ⊢
      by_cases h2 : acc.length = 64
      · rw [if_pos h2]
      · rw [if_neg h2] at h ⊢
        by_cases h3 : (pairP i p).2.1 = 0
        · rw [if_pos h3] at h ⊢; exact parseL_err r _ _ h
        · rw [if_neg h3]
theorem parse_err (l : List UInt8) (h : (parse l).2.1 ≠ 0) : (parse l).1 = [] := by
  unfold parse at h ⊢
  by_cases h1 : l.length > 16384
  · rw [if_pos h1]
  · rw [if_neg h1] at h ⊢; exact parseL_err _ _ _ h
/-- The pair of a piece has no place in it. -/
theorem pairP_at (i j : Nat) (p : List UInt8) (h : (pairP i p).2.1 = 0) : pairP i p = pairP j p := by
  unfold pairP at h ⊢
  split at h
  · rename_i h1
    split at h
    · rename_i h2
      simp [h1, h2]
    · rename_i h2; exact absurd h h2
  · rename_i h1; exact absurd h h1
/-- Pieces behind one another. -/
theorem parseL_app : ∀ (ps : List (List UInt8)) (i : Nat) (acc : List (ByteArray × ByteArray)) (qs : List (List UInt8)), (parseL ps i acc).2.1 = 0 → parseL (ps ++ qs) i acc = parseL qs (i + widthL ps) (parseL ps i acc).1
  | [], i, acc, qs, h => by simp [parseL, widthL]
  | p :: r, i, acc, qs, h => by
    rw [List.cons_append]
    rw [parseL_cons] at h
    rw [parseL_cons, parseL_cons]
    by_cases h1 : p = []
    · rw [if_pos h1] at h; rw [if_pos h1, if_pos h1, parseL_app r _ _ qs h, widthL_cons, h1]; simp [Nat.add_assoc]
    · rw [if_neg h1] at h; rw [if_neg h1, if_neg h1]
      by_cases h2 : acc.length = 64
      · rw [if_pos h2] at h; simp at h
      · rw [if_neg h2] at h; rw [if_neg h2, if_neg h2]
        by_cases h3 : (pairP i p).2.1 = 0
        · rw [if_pos h3] at h; rw [if_pos h3, if_pos h3, parseL_app r _ _ qs h, widthL_cons]; simp only [Nat.add_assoc]
        · rw [if_neg h3] at h; exact absurd h h3
/-- The same pieces at another place, behind other pairs. -/
theorem parseL_shift : ∀ (qs : List (List UInt8)) (i j : Nat) (acc bcc : List (ByteArray × ByteArray)), acc.length + bcc.length ≤ 64 → bcc.length ≤ 64 → (parseL qs i bcc).2.1 = 0 →
    ((parseL qs j (acc ++ bcc)).2.1 = 0 ∧ acc.length + (parseL qs i bcc).1.length ≤ 64 ∧ (parseL qs j (acc ++ bcc)).1 = acc ++ (parseL qs i bcc).1) ∨ ((parseL qs j (acc ++ bcc)).2.1 = 32 ∧ 64 < acc.length + (parseL qs i bcc).1.length)
  | [], i, j, acc, bcc, h, hb, _ => .inl ⟨rfl, h, rfl⟩
  | p :: r, i, j, acc, bcc, h, hb, h0 => by
    rw [parseL_cons] at h0
    rw [parseL_cons, parseL_cons]
    by_cases h1 : p = []
    · rw [if_pos h1] at h0; rw [if_pos h1, if_pos h1]; exact parseL_shift r _ _ acc bcc h hb h0
    · rw [if_neg h1] at h0; rw [if_neg h1, if_neg h1]
      by_cases h2 : bcc.length = 64
      · rw [if_pos h2] at h0; simp at h0
      · rw [if_neg h2] at h0; rw [if_neg h2]
        by_cases h3 : (pairP i p).2.1 = 0
        · rw [if_pos h3] at h0; rw [if_pos h3, ← pairP_at i j p h3, if_pos h3]
          by_cases h4 : (acc ++ bcc).length = 64
          · right
            rw [if_pos h4]
            refine ⟨rfl, ?_⟩
            have : bcc.length + 1 ≤ (parseL r (i + p.length + 1) (bcc ++ [(pairP i p).1])).1.length := by
              have mono : ∀ (qs : List (List UInt8)) (i : Nat) (acc : List (ByteArray × ByteArray)), (parseL qs i acc).2.1 = 0 → acc.length ≤ (parseL qs i acc).1.length := by
                intro qs
                induction qs with
                | nil => intro i acc _; exact Nat.le_refl _
                | cons p r ih =>
                  intro i acc h0
                  unfold parseL at h0 ⊢
                  by_cases h1 : p = []
                  · rw [if_pos h1] at h0 ⊢; exact ih _ _ h0
                  · rw [if_neg h1] at h0 ⊢
                    by_cases h2 : acc.length = 64
                    · rw [if_pos h2] at h0; simp at h0
                    · rw [if_neg h2] at h0 ⊢
                      by_cases h3 : (pairP i p).2.1 = 0
                      · rw [if_pos h3] at h0 ⊢
                        have := ih _ _ h0
                        rw [List.length_append, List.length_singleton] at this
                        omega
                      · rw [if_neg h3] at h0; exact absurd h0 h3
              have := mono r _ _ h0
              rwa [List.length_append, List.length_singleton] at this
            rw [List.length_append] at h4
            omega
          · rw [if_neg h4, List.append_assoc]
            rw [List.length_append] at h4
            exact parseL_shift r _ _ acc (bcc ++ [(pairP i p).1]) (by rw [List.length_append, List.length_singleton]; omega) (by rw [List.length_append, List.length_singleton]; omega) h0
        · rw [if_neg h3] at h0; exact absurd h0 h3
end Go.Proofs.YtmimipgmhgalaaaGreatDoor.Spec
