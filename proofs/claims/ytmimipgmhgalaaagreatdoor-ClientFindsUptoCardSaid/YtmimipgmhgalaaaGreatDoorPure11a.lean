/-
  What urlform's Parse and Scopes compute (the printed functions), on lists of bytes.
-/
import Derived.Test.YtmimipgmhgalaaaGreatDoorPAllx1
import Derived.Test.YtmimipgmhgalaaaGreatDoorPAllx2
import Derived.Test.YtmimipgmhgalaaaGreatDoorSpec03d
import Derived.Test.YtmimipgmhgalaaaGreatDoorPlain
namespace Go.Proofs.YtmimipgmhgalaaaGreatDoor.Pure
open Go.RowKit Go.Proofs.YtmimipgmhgalaaaGreatDoorW.PrintWords Go.Proofs.YtmimipgmhgalaaaGreatDoor.Plain Go.Proofs.YtmimipgmhgalaaaGreatDoor.Spec Go.Proofs.YtmimipgmhgalaaaGreatDoor.PAll
set_option linter.unusedSimpArgs false
set_option linter.unusedVariables false
theorem toList_data (s : ByteArray) : s.toList = s.data.toList := ByteArray.toList_eq s
theorem bs_toList (l : List UInt8) : (bs l).toList = l := by rw [toList_data, bs_data]
theorem map_bs_of : ∀ l : List ByteArray, (l.map (·.data.toList)).map bs = l
  | [] => rfl
  | s :: l => by rw [List.map_cons, List.map_cons, bs_of, map_bs_of l]
theorem map_of_bs : ∀ l : List (List UInt8), (l.map bs).map (·.data.toList) = l
  | [] => rfl
  | s :: l => by rw [List.map_cons, List.map_cons, map_of_bs l]; rfl
theorem split_eq (s : ByteArray) (c : UInt8) (h : s.size < 4294967281) : strings_Split.f s ⟨#[c]⟩ = some ((splitL c s.data.toList).map bs) := by
  unfold strings_Split.f
  rw [if_pos ⟨rfl, h⟩]
  congr 1
  rw [← map_bs_of (Lib.splitB _ _ _ _), Lib.splitB_data, ← splitK_splitL]
  congr 2
  show Lib.count s.data.toList [c] = _
  rw [Lib.count_one]
theorem cut_eq (s : ByteArray) (c : UInt8) (h : s.size < 4294967281) : strings_Cut.f s ⟨#[c]⟩ = some (bs (cutL c s.data.toList).1, bs (cutL c s.data.toList).2.1, (cutL c s.data.toList).2.2) := by
  unfold strings_Cut.f
  rw [if_pos ⟨rfl, h⟩, show (⟨#[c]⟩ : ByteArray).data.toList = [c] from rfl, cut_cutL]
  rfl
theorem unesc_eq (s : ByteArray) (h : s.size ≤ 140737488355328) : urlform_Unescape.f s = some (bs (unescL s.data.toList 0 []).1, (unescL s.data.toList 0 []).2.1, (unescL s.data.toList 0 []).2.2) := by
  unfold urlform_Unescape.f
  rw [if_pos h]
  rfl
def mk34 (p : ByteArray × ByteArray) : S68 := ⟨p.1, p.2⟩
def res34 (r : List (ByteArray × ByteArray) × Int × Int) : List S68 × Int × Int := (r.1.map mk34, r.2.1, r.2.2)
theorem rd_bs (qs : List (List UInt8)) (i : Nat) (h : i < qs.length) : rdOf ByteArray.empty (qs.map bs) (i : Int) = bs qs[i] := by
  rw [rdOf_get _ _ _ (by rw [List.length_map]; exact h), List.getElem_map]
theorem place_of (l : List UInt8) : 0 ≤ (unescL l 0 []).2.2 ∧ (unescL l 0 []).2.2 ≤ (l.length : Int) := by
  have := unescL_place l.length l (Nat.le_refl _) 0 []
  omega
theorem parse_loop (qs : List (List UInt8)) (hq : qs.length ≤ 16385) : ∀ (m i at_ : Nat) (acc : List (ByteArray × ByteArray)), i + m = qs.length → at_ + widthL (qs.drop i) ≤ 16385 → acc.length ≤ 64 →
    Ev (fun k => urlform_Parse.l0 k (acc.map mk34) (at_ : Int) (qs.map bs) (qs.length : Int) (i : Int)) (res34 (parseL (qs.drop i) at_ acc)) := by
  intro m
  induction m with
  | zero =>
    intro i at_ acc hi _ _
    refine Ev.step (f := fun _ => some (acc.map mk34, 0, 0)) (fun k => ?_) (Ev.eq (Ev.now _) ?_)
    · simp only [urlform_Parse.l0]; rw [if_neg (by omega)]
    · rw [List.drop_eq_nil_of_le (by omega)]; rfl
  | succ m ih =>
    intro i at_ acc hi hw ha
    have hlt : i < qs.length := by omega
    have hrd := rd_bs qs i hlt
    have hlen : (qs.map bs).length = qs.length := List.length_map ..
    have hal : (acc.map mk34).length = acc.length := List.length_map ..
    rw [drop_cons qs i hlt, widthL_cons] at hw
    rw [drop_cons qs i hlt, parseL_cons]
    have ih1 := ih (i + 1)
    generalize qs[i] = p at *
    have hc := cutL_len 61 p
    have hp1 := place_of (cutL 61 p).1
    have hp2 := place_of (cutL 61 p).2.1
    by_cases h1 : p = []
    · rw [if_pos h1]
      have h1l : p.length = 0 := by rw [h1]; rfl
      have h1t : (bs p).toList = [] := by rw [bs_toList]; exact h1
      refine Ev.step (fun k => ?_) (ih1 (at_ + 1) acc (by omega) (by omega) ha)
      simp only [urlform_Parse.l0]
      simp (disch := omega) only [↓if_pos, ↓if_neg, hrd, h1t, w64, bs_size, h1l, if_true]
      rfl
    · rw [if_neg h1]
      have h1t : ¬ (bs p).toList = [] := by rw [bs_toList]; exact h1
      by_cases h2 : acc.length = 64
      · rw [if_pos h2]
        refine Ev.step (f := fun _ => some ([], 32, (at_ : Int))) (fun k => ?_) (Ev.eq (Ev.now _) rfl)
        simp only [urlform_Parse.l0]
        simp (disch := omega) only [↓if_pos, ↓if_neg, hrd, h1t, w64, bs_size, hal, h2, if_true, if_false]
      · rw [if_neg h2]
        have hct := cut_eq (bs p) 61 (by rw [bs_size]; omega)
        rw [bs_data] at hct
        have hu1 := unesc_eq (bs (cutL 61 p).1) (by rw [bs_size]; omega)
        have hu2 := unesc_eq (bs (cutL 61 p).2.1) (by rw [bs_size]; omega)
        rw [bs_data] at hu1 hu2
        unfold pairP
        by_cases h3 : (unescL (cutL 61 p).1 0 []).2.1 = 0
        · rw [if_pos h3]
          by_cases h4 : (unescL (cutL 61 p).2.1 0 []).2.1 = 0
          · rw [if_pos h4, if_pos rfl]
            refine Ev.step (fun k => ?_) (ih1 (at_ + p.length + 1) (acc ++ [(bs (unescL (cutL 61 p).1 0 []).1, bs (unescL (cutL 61 p).2.1 0 []).1)]) (by omega) (by omega) (by rw [List.length_append, List.length_singleton]; omega))
            simp only [urlform_Parse.l0]
            simp (disch := omega) only [↓if_pos, ↓if_neg, hrd, h1t, w64, bs_size, hct, hu1, hu2, Option.bind_some, h3, h4, if_true, if_false, List.map_append, List.map_cons, List.map_nil]
            rfl
          · rw [if_neg h4, if_neg h4]
            refine Ev.step (f := fun _ => some ([], (unescL (cutL 61 p).2.1 0 []).2.1, (at_ : Int) + (cutL 61 p).1.length + 1 + (unescL (cutL 61 p).2.1 0 []).2.2)) (fun k => ?_) (Ev.eq (Ev.now _) rfl)
            simp only [urlform_Parse.l0]
            simp (disch := omega) only [↓if_pos, ↓if_neg, hrd, h1t, w64, bs_size, hct, hu1, hu2, Option.bind_some, h3, h4, if_true, if_false]
        · rw [if_neg h3, if_neg h3]
          refine Ev.step (f := fun _ => some ([], (unescL (cutL 61 p).1 0 []).2.1, (at_ : Int) + (unescL (cutL 61 p).1 0 []).2.2)) (fun k => ?_) (Ev.eq (Ev.now _) rfl)
          simp only [urlform_Parse.l0]
          simp (disch := omega) only [↓if_pos, ↓if_neg, hrd, h1t, w64, bs_size, hct, hu1, hu2, Option.bind_some, h3, if_true, if_false]
theorem parse_ev (s : ByteArray) (hs : s.size ≤ 140737488355328) : Ev (fun k => urlform_Parse.f k s) (res34 (parse s.data.toList)) := by
  unfold urlform_Parse.f parse
  rw [data_len]
  by_cases h : s.size > 16384
  · rw [if_pos h]
    exact Ev.pos (by omega) (Ev.now _)
  · rw [if_neg h]
    refine Ev.neg (by omega) ?_
    rw [split_eq s 38 (by omega)]
    simp only [Option.bind_some, List.length_map]
    have hw := splitL_width 38 s.data.toList
    rw [data_len] at hw
    have hc := count_width (splitL 38 s.data.toList)
    exact parse_loop _ (by omega) (splitL 38 s.data.toList).length 0 0 [] (by omega) (by rw [List.drop_zero]; omega) (by simp)

/-! ### Scopes -/
theorem bt_bs (p : List UInt8) (j : Nat) (h : j < p.length) : bt (bs p) (j : Int) = (p[j].toNat : Int) := by
  unfold bt
  rw [dif_pos (by rw [bs_size]; simpa using h)]
  rfl
theorem odd_eq (c : UInt8) : urlform_Scopes_1.f (c.toNat : Int) = some (!letterB c) := by
  unfold urlform_Scopes_1.f letterB
  by_cases h1 : (c.toNat : Int) < 33
  · rw [if_pos h1, decide_eq_false (by omega)]; rfl
  · rw [if_neg h1]
    by_cases h2 : (c.toNat : Int) > 126
    · rw [if_pos h2, decide_eq_false (by omega)]; rfl
    · rw [if_neg h2]
      by_cases h3 : (c.toNat : Int) = 34
      · rw [if_pos h3, decide_eq_false (by omega)]; rfl
      · rw [if_neg h3]
        by_cases h4 : (c.toNat : Int) = 92
        · rw [decide_eq_false (by omega), h4]; rfl
        · rw [decide_eq_true (by omega), beq_eq_false_iff_ne.2 h4]; rfl
def resS (r : List (List UInt8) × Int) : List ByteArray × Int := (r.1.map bs, r.2)
theorem scopes_inner (qs : List (List UInt8)) (i : Nat) (p : List UInt8) (hp : p.length ≤ 16385) (hi : i < 16385) (r : List ByteArray × Int) : ∀ (m j : Nat), j + m = p.length →
    ((p.drop j).any (fun c => !letterB c) = true → r = ([], 33)) → ((p.drop j).any (fun c => !letterB c) = false → Ev (fun k => urlform_Scopes.l0 k (qs.map bs) (qs.length : Int) ((i + 1 : Nat) : Int)) r) →
    Ev (fun k => urlform_Scopes.l1 k (bs p) (qs.map bs) (qs.length : Int) (i : Int) (p.length : Int) (j : Int)) r := by
  intro m
  induction m with
  | zero =>
    intro j hj _ hr
    refine Ev.step (fun k => ?_) (hr (by rw [List.drop_eq_nil_of_le (by omega)]; rfl))
    simp only [urlform_Scopes.l1]
    simp (disch := omega) only [↓if_pos, ↓if_neg, w64]
    rfl
  | succ m ih =>
    intro j hj hb hr
    have hlt : j < p.length := by omega
    have hbt := bt_bs p j hlt
    rw [drop_cons p j hlt, List.any_cons] at hb hr
    have ho := odd_eq p[j]
    rw [← hbt] at ho
    cases hc : letterB p[j] with
    | false =>
      rw [hc] at hb ho
      rw [hb rfl]
      refine Ev.step (f := fun _ => some ([], 33)) (fun k => ?_) (Ev.now _)
      simp only [urlform_Scopes.l1]
      simp (disch := omega) only [↓if_pos, ↓if_neg, w64, bs_size, ho, Option.bind_some, Bool.not_false, if_true]
    | true =>
      rw [hc] at hb hr ho
      refine Ev.step (fun k => ?_) (ih (j + 1) (by omega) (by simpa using hb) (by simpa using hr))
      simp only [urlform_Scopes.l1]
      simp (disch := omega) only [↓if_pos, ↓if_neg, w64, bs_size, ho, Option.bind_some, Bool.not_true, if_false, Bool.false_eq_true]
      rfl
theorem sorted_set (qs : List (List UInt8)) : compactS (sortS (qs.map bs)) = (setL qs).map bs := by
  unfold compactS sortS
  have h1 : (qs.map bs).map ofS = qs := map_of_bs qs
  have h2 : ∀ l : List (List UInt8), (l.map toS).map ofS = l := map_of_bs
  rw [h1, h2, compact_sort]
  rfl
theorem scopes_loop (qs : List (List UInt8)) (hq : widthL qs ≤ 16385) (h0 : qs ≠ []) : ∀ (m i : Nat), i + m = qs.length →
    Ev (fun k => urlform_Scopes.l0 k (qs.map bs) (qs.length : Int) (i : Int)) (resS (if (qs.drop i).any badP = true then ([], 33) else if 32 < (setL qs).length then ([], 32) else (setL qs, 0))) := by
  have hcw := count_width qs
  intro m
  induction m with
  | zero =>
    intro i hi
    have hs1 : slices_Sort_string_string.f (qs.map bs) = some (sortS (qs.map bs)) := by
      unfold slices_Sort_string_string.f
      rw [if_pos ⟨by simpa using h0, by rw [List.length_map]; omega⟩]
    have hs2 : slices_Compact_string_string.f (sortS (qs.map bs)) = some ((setL qs).map bs) := by
      unfold slices_Compact_string_string.f
      rw [if_pos, sorted_set]
      intro e
      have := congrArg List.length e
      simp [sortS, List.length_mergeSort] at this
      exact h0 this
    have hln : ((setL qs).map bs).length = (setL qs).length := List.length_map ..
    rw [List.drop_eq_nil_of_le (by omega), List.any_nil, if_neg (by simp)]
    by_cases h : 32 < (setL qs).length
    · rw [if_pos h]
      refine Ev.step (f := fun _ => some ([], 32)) (fun k => ?_) (Ev.eq (Ev.now _) rfl)
      simp only [urlform_Scopes.l0]
      simp (disch := omega) only [↓if_pos, ↓if_neg, hs1, hs2, Option.bind_some, hln]
    · rw [if_neg h]
      refine Ev.step (f := fun _ => some ((setL qs).map bs, 0)) (fun k => ?_) (Ev.eq (Ev.now _) rfl)
      simp only [urlform_Scopes.l0]
      simp (disch := omega) only [↓if_pos, ↓if_neg, hs1, hs2, Option.bind_some, hln]
  | succ m ih =>
    intro i hi
    have hlt : i < qs.length := by omega
    have hrd := rd_bs qs i hlt
    have hlen : (qs.map bs).length = qs.length := List.length_map ..
    have hpw := widthL_mem qs qs[i] (List.getElem_mem hlt)
    rw [drop_cons qs i hlt, List.any_cons]
    have ih1 := ih (i + 1) (by omega)
    generalize qs[i] = p at *
    by_cases h1 : p = []
    · have h1t : (bs p).toList = [] := by rw [bs_toList]; exact h1
      have hb : badP p = true := by rw [h1]; rfl
      rw [hb, Bool.true_or, if_pos rfl]
      refine Ev.step (f := fun _ => some ([], 33)) (fun k => ?_) (Ev.eq (Ev.now _) rfl)
      simp only [urlform_Scopes.l0]
      simp (disch := omega) only [↓if_pos, ↓if_neg, hrd, h1t, if_true]
    · have h1t : ¬ (bs p).toList = [] := by rw [bs_toList]; exact h1
      have he : p.isEmpty = false := by cases p <;> simp_all
      refine Ev.step (f := fun k => urlform_Scopes.l1 k (bs p) (qs.map bs) (qs.length : Int) (i : Int) (p.length : Int) ((0 : Nat) : Int)) (fun k => ?_) ?_
      · simp only [urlform_Scopes.l0]
        simp (disch := omega) only [↓if_pos, ↓if_neg, hrd, h1t, if_false, bs_size]
        rfl
      · refine scopes_inner qs i p (by omega) (by omega) _ p.length 0 (by omega) (fun hb => ?_) (fun hb => ?_)
        · rw [List.drop_zero] at hb
          rw [show badP p = true by unfold badP; rw [he, hb]; rfl, Bool.true_or, if_pos rfl]; rfl
        · rw [List.drop_zero] at hb
          rw [show badP p = false by unfold badP; rw [he, hb]; rfl, Bool.false_or]
          exact ih1
theorem scopes_ev (s : ByteArray) : Ev (fun k => urlform_Scopes.f k s) (resS (scopesL s.data.toList)) := by
  unfold urlform_Scopes.f scopesL
  rw [data_len]
  by_cases h : 256 < s.size
  · rw [if_pos h]
    exact Ev.pos (by omega) (Ev.now _)
  · rw [if_neg h]
    refine Ev.neg (by omega) ?_
    by_cases h1 : s.data.toList = []
    · rw [if_pos h1]
      exact Ev.pos (by rw [toList_data]; exact h1) (Ev.now _)
    · rw [if_neg h1]
      refine Ev.neg (by rw [toList_data]; exact h1) ?_
      rw [split_eq s 32 (by omega)]
      simp only [Option.bind_some, List.length_map]
      have hw := splitL_width 32 s.data.toList
      rw [data_len] at hw
      exact scopes_loop _ (by omega) (splitL_ne _ _) (splitL 32 s.data.toList).length 0 (by omega)
end Go.Proofs.YtmimipgmhgalaaaGreatDoor.Pure
