/-
  Normal, Show, Code, by the program and by the reference: what the printed functions answer, as lists.
-/
import Derived.Test.YtaeipffenlkjpaaCCode
import Derived.Test.YtaeipffenlkjpaaPAllx1
import Derived.Test.YtaeipffenlkjpaaPAllx2
import Derived.Test.YtaeipffenlkjpaaPAllx3
namespace Go.Proofs.Ytaeipffenlkjpaa.Sha
open Go.RowKit Go.Proofs.YtaeipffenlkjpaaW.PrintWords Go.Proofs.Ytaeipffenlkjpaa.PAll Go.Proofs.Ytaeipffenlkjpaa.Plain Go.Proofs.Ytaeipffenlkjpaa.Cod
set_option linter.unusedVariables false
set_option linter.unusedSimpArgs false
theorem sN_lt (s : ByteArray) : Lt 256 (sN s) := fun x hx => by
  obtain ⟨b, _, rfl⟩ := List.mem_map.1 hx
  exact UInt8.toNat_lt b
theorem mark_all : ∀ c, c < 256 → decide (Lib.indexByte [32, 45, 95, 46, 47] c.toUInt8 ≥ 0) = decide (c ∈ marks) := by decide +kernel
theorem mark_f (c : Nat) (hc : c < 256) : codes_Normal_1.f (c : Int) = some (decide (c ∈ marks)) := by
  rw [← mark_all c hc]
  rfl
theorem up_256 (c : Nat) (hc : c < 256) : up c < 256 := by unfold up; split <;> omega
/-- The answer of Normal, once the text is through. -/
def ends (b : List Nat) : ByteArray × Int := if isCode b = true then (txt b, 0) else ((⟨#[]⟩ : ByteArray), 91)
theorem normal_loop (s : ByteArray) (hs : s.size ≤ 64) : ∀ (d : List Nat) (i : Nat) (acc : List Nat), (sN s).drop i = d → acc.length ≤ i → Lt 256 acc →
    Ev (fun k => codes_Normal.l0 k s (toI acc) (s.size : Int) (i : Int)) (ends (acc ++ core d))
  | [], i, acc, hd, hl, ha => by
    have hi := drop_none hd
    rw [sN_len] at hi
    rw [core_nil, List.append_nil]
    refine Ev.step (f := fun _ => some (ends acc)) (fun k => ?_) (Ev.now _)
    simp only [codes_Normal.l0]
    rw [if_neg (by omega)]
    show (codes_isCode.f (txt acc)).bind _ = _
    unfold codes_isCode.f ends
    rw [sN_txt acc ha]
    cases isCode acc <;> rfl
  | c :: d, i, acc, hd, hl, ha => by
    obtain ⟨h1, h2, h3⟩ := drop_at hd
    have hc : c < 256 := by
      have := sN_lt s c (List.mem_of_mem_drop (by rw [hd]; simp))
      exact this
    rw [sN_len] at h1
    have hb : bt s (i : Int) = (c : Int) := by rw [bt_sN s i h1, h2]
    have hw : wrap64 ((i : Int) + 1) = ((i + 1 : Nat) : Int) := by rw [w64 (by omega) (by omega)]; rfl
    have hal : (toI acc).length < 140737488355328 := by rw [toI_len]; omega
    refine Ev.step (fun k => ?_) (Ev.eq (normal_loop s hs d (i + 1) (acc ++ (if c ∈ marks then [] else [up c])) h3 (by split <;> simp <;> omega) (fun x hx => ?_)) (by rw [core_cons, List.append_assoc]))
    · simp only [codes_Normal.l0]
      rw [if_pos (by omega), if_pos (by omega), if_pos (by omega), hb, mark_f c hc, hw]
      show (if decide (c ∈ marks) = true then _ else _) = _
      by_cases hm : c ∈ marks
      · rw [if_pos (decide_eq_true hm), if_pos hm, List.append_nil]
      · rw [if_neg (by simpa using hm), if_neg hm]
        unfold up
        by_cases h97 : 97 ≤ c
        · rw [if_pos (by omega)]
          by_cases h122 : c ≤ 122
          · rw [if_pos (by omega), if_pos hal, if_pos ⟨h97, h122⟩, ← toI_push]
            congr 3
            omega
          · rw [if_neg (by omega), if_pos hal, if_neg (fun h => h122 h.2), ← toI_push]
        · rw [if_neg (by omega), if_pos hal, if_neg (fun h => h97 h.1), ← toI_push]
    · rcases List.mem_append.1 hx with hx | hx
      · exact ha x hx
      · split at hx
        · cases hx
        · rw [List.mem_singleton.1 hx]; exact up_256 c hc
theorem normal_ev (s : ByteArray) : Ev (fun k => codes_Normal.f k s) (txt (normal (sN s)).1, ((normal (sN s)).2 : Int)) := by
  unfold codes_Normal.f normal
  rw [sN_len]
  by_cases h : 64 < s.size
  · refine Ev.pos (by omega) (Ev.eq (Ev.now _) ?_)
    rw [if_pos h]
    rfl
  · refine Ev.neg (by omega) (Ev.eq (normal_loop s (by omega) (sN s) 0 [] (by simp) (by simp) (Lt.nil _)) ?_)
    rw [if_neg h, List.nil_append]
    unfold ends
    split <;> rfl
theorem txt_inj {a b : ByteArray} (h : sN a = sN b) : a = b := by rw [← txt_sN a, ← txt_sN b, h]
theorem sN_app (a b : ByteArray) : sN (a ++ b) = sN a ++ sN b := by
  unfold sN
  rw [ByteArray.data_append, Array.toList_append, List.map_append]
theorem txt_app (a b : List Nat) (ha : All 256 a) (hb : All 256 b) : txt (a ++ b) = txt a ++ txt b := by
  apply txt_inj
  rw [sN_txt _ (ha.app hb), sN_app, sN_txt _ ha, sN_txt _ hb]
theorem lets_256 : ∀ x ∈ lets, x < 256 := by decide
theorem isCode_256 {s : List Nat} (h : ∀ x ∈ s, x ∈ lets) : All 256 s := fun x hx => lets_256 x (h x hx)
theorem LS_sN : sN LS = lets := by kernel_rfl
theorem letter_loop (c : Nat) : ∀ (d : List Nat) (i : Nat), lets.drop i = d → Ev (fun k => wicketref09_letter.l0 k (c : Int) LS (i : Int)) (decide (c ∈ d))
  | [], i, hd => by
    have hi := drop_none hd
    have hz := LS_size
    refine Ev.step (f := fun _ => some false) (fun k => ?_) (Ev.now _)
    simp only [wicketref09_letter.l0]
    rw [if_neg (by have : lets.length = 20 := rfl; omega)]
  | x :: d, i, hd => by
    obtain ⟨h1, h2, h3⟩ := drop_at hd
    have hl : lets.length = 20 := rfl
    have hz := LS_size
    have hb : bt LS (i : Int) = (x : Int) := by rw [bt_sN LS i (by omega), LS_sN, h2]
    have hw : wrap64 ((i : Int) + 1) = ((i + 1 : Nat) : Int) := by rw [w64 (by omega) (by omega)]; rfl
    by_cases hx : x = c
    · refine Ev.step (f := fun _ => some true) (fun k => ?_) (Ev.eq (Ev.now _) ?_)
      · simp only [wicketref09_letter.l0]
        rw [if_pos (by omega), if_pos (by omega), hb, if_pos (by omega)]
      · rw [hx]; simp
    · refine Ev.step (fun k => ?_) (Ev.eq (letter_loop c d (i + 1) h3) ?_)
      · simp only [wicketref09_letter.l0]
        rw [if_pos (by omega), if_pos (by omega), hb, if_neg (by omega), hw]
      · have : (c ∈ x :: d) ↔ c ∈ d := by simp [Ne.symm hx]
        rw [decide_eq_decide.2 this]
theorem letter9_ev (c : Nat) : Ev (fun k => wicketref09_letter.f k (c : Int)) (decide (c ∈ lets)) := letter_loop c lets 0 rfl
theorem code_loop (s : ByteArray) (hs : s.size ≤ 140737488355328) : ∀ (d : List Nat) (i : Nat), (sN s).drop i = d → Ev (fun k => wicketref09_Code.l0 k s (i : Int)) ((d.all fun x => decide (x ∈ lets)) && decide (s.size = 8))
  | [], i, hd => by
    have hi := drop_none hd
    rw [sN_len] at hi
    refine Ev.step (f := fun _ => some ((s.size : Int) == 8)) (fun k => ?_) (Ev.eq (Ev.now _) ?_)
    · simp only [wicketref09_Code.l0]
      rw [if_neg (by omega)]
    · rw [List.all_nil, Bool.true_and, Bool.eq_iff_iff, beq_iff_eq, decide_eq_true_eq]
      omega
  | c :: d, i, hd => by
    obtain ⟨h1, h2, h3⟩ := drop_at hd
    rw [sN_len] at h1
    have hb : bt s (i : Int) = (c : Int) := by rw [bt_sN s i h1, h2]
    have hw : wrap64 ((i : Int) + 1) = ((i + 1 : Nat) : Int) := by rw [w64 (by omega) (by omega)]; rfl
    refine Ev.step (f := fun k => (wicketref09_letter.f k (c : Int)).bind fun t => if t = true then wicketref09_Code.l0 k s ((i + 1 : Nat) : Int) else some false) (fun k => ?_) (Ev.bind (letter9_ev c) ?_)
    · simp only [wicketref09_Code.l0]
      rw [if_pos (by omega), if_pos (by omega), hb, hw]
    · rw [List.all_cons]
      by_cases hm : c ∈ lets
      · rw [decide_eq_true hm]
        exact Ev.pos rfl (code_loop s hs d (i + 1) h3)
      · rw [decide_eq_false hm]
        exact Ev.neg (by simp) (Ev.now _)
theorem code_ev (s : ByteArray) (hs : s.size ≤ 140737488355328) : Ev (fun k => wicketref09_Code.f k s) (isCode (sN s)) := by
  refine Ev.eq (code_loop s hs (sN s) 0 rfl) ?_
  unfold isCode
  rw [sN_len, Bool.and_comm]
theorem sN_extract (s : ByteArray) (a b : Nat) : sN (s.extract a b) = ((sN s).take b).drop a := by
  unfold sN
  rw [ByteArray.data_extract, Array.toList_extract]
  show List.map _ ((s.data.toList.drop a).take (b - a)) = _
  rw [List.drop_take, List.map_take, List.map_drop]
theorem show_parts (s : ByteArray) (h8 : s.size = 8) : ((s.extract 0 4) ++ (⟨#[45]⟩ : ByteArray)) ++ (s.extract 4 s.size) = txt ((sN s).take 4 ++ [45] ++ (sN s).drop 4) ∧ (s.extract 0 4).size = 4 ∧ (s.extract 4 s.size).size = 4 := by
  have hl := sN_len s
  refine ⟨?_, ?_, ?_⟩
  · apply txt_inj
    rw [sN_txt _ (((All.take (sN_lt s) 4).app (All.one (by decide))).app (All.drop (sN_lt s) 4)), sN_app, sN_app, sN_extract, sN_extract, List.drop_zero, List.take_of_length_le (l := sN s) (i := s.size) (by omega)]
    rfl
  · rw [← sN_len, sN_extract, List.drop_zero, List.length_take]; omega
  · rw [← sN_len, sN_extract, List.length_drop, List.length_take]; omega
theorem show_f (s : ByteArray) : codes_Show.f s = some (txt (shown (sN s))) := by
  unfold codes_Show.f codes_isCode.f shown
  cases hc : isCode (sN s) with
  | false => rfl
  | true =>
    have h8 : s.size = 8 := by rw [← sN_len]; exact (isCode_spec.1 hc).1
    obtain ⟨h1, h2, h3⟩ := show_parts s h8
    show (if (0 : Int) ≤ 4 then _ else none) = some (txt ((sN s).take 4 ++ [45] ++ (sN s).drop 4))
    rw [if_pos (by decide), if_pos (by first | rfl | decide), if_pos (by omega), if_pos (by omega), if_pos (by omega), if_pos (by rw [ByteArray.size_append, h2, h3]; decide), h1]
theorem rshow_ev (s : ByteArray) (hs : s.size ≤ 140737488355328) : Ev (fun k => wicketref09_Show.f k s) (txt (shown (sN s))) := by
  unfold wicketref09_Show.f
  refine Ev.bind (code_ev s hs) ?_
  unfold shown
  cases hc : isCode (sN s) with
  | false => exact Ev.neg (by simp) (Ev.now _)
  | true =>
    have h8 : s.size = 8 := by rw [← sN_len]; exact (isCode_spec.1 hc).1
    obtain ⟨h1, h2, h3⟩ := show_parts s h8
    refine Ev.congr (fun k => ?_) (Ev.now _)
    rw [if_pos rfl, if_pos (by decide), if_pos (by omega), if_pos (by omega), if_pos (by rw [ByteArray.size_append, h2, h3]; decide), h1, if_pos rfl]
theorem up_mark : ∀ c, c < 256 → (c ∈ marks → up c = c) ∧ (up c ∈ marks → c ∈ marks) := by decide +kernel
theorem mark_let : ∀ c ∈ marks, c ∉ lets := by decide
theorem up_int (c : Nat) (h1 : 97 ≤ c) (h2 : c ≤ 122) : ((((c : Int) - 97) % 256) + 65) % 256 = ((up c : Nat) : Int) := by
  unfold up
  rw [if_pos ⟨h1, h2⟩]
  omega
theorem up_low (c : Nat) (h : ¬ (97 ≤ c ∧ c ≤ 122)) : up c = c := if_neg h
theorem marks_int (u : Nat) (h : u ∈ marks) : (u : Int) = 32 ∨ (u : Int) = 45 ∨ (u : Int) = 95 ∨ (u : Int) = 46 ∨ (u : Int) = 47 := by
  simp only [marks, List.mem_cons, List.not_mem_nil, or_false] at h
  omega
theorem marks_not (u : Nat) (h : u ∉ marks) : ¬ (u : Int) = 32 ∧ ¬ (u : Int) = 45 ∧ ¬ (u : Int) = 95 ∧ ¬ (u : Int) = 46 ∧ ¬ (u : Int) = 47 := by
  simp only [marks, List.mem_cons, List.not_mem_nil, or_false] at h
  omega
theorem rnormal_loop (s : ByteArray) (hs : s.size ≤ 64) : ∀ (d : List Nat) (i : Nat) (acc : List Nat), (sN s).drop i = d → acc.length ≤ i → (∀ x ∈ acc, x ∈ lets) →
    Ev (fun k => wicketref09_Normal.l0 k s (txt acc) (i : Int)) (ends (acc ++ core d))
  | [], i, acc, hd, hl, ha => by
    have hi := drop_none hd
    rw [sN_len] at hi
    have hz : (txt acc).size = acc.length := txt_size acc
    rw [core_nil, List.append_nil]
    refine Ev.step (f := fun _ => some (ends acc)) (fun k => ?_) (Ev.now _)
    simp only [wicketref09_Normal.l0]
    rw [if_neg (by omega)]
    unfold ends
    by_cases h8 : acc.length = 8
    · rw [if_pos (by omega), if_pos (isCode_spec.2 ⟨h8, ha⟩)]
    · rw [if_neg (by omega), if_neg (fun h => h8 (isCode_spec.1 h).1)]
  | c :: d, i, acc, hd, hl, ha => by
    obtain ⟨h1, h2, h3⟩ := drop_at hd
    have hc : c < 256 := sN_lt s c (List.mem_of_mem_drop (by rw [hd]; simp))
    rw [sN_len] at h1
    have hb : bt s (i : Int) = (c : Int) := by rw [bt_sN s i h1, h2]
    have hw : wrap64 ((i : Int) + 1) = ((i + 1 : Nat) : Int) := by rw [w64 (by omega) (by omega)]; rfl
    have hz : (txt acc).size = acc.length := txt_size acc
    have hu := up_256 c hc
    -- what stands behind the letter's case
    have hj2 : Ev (fun k => wicketref09_Normal.j2 k s (txt acc) (i : Int) ((up c : Nat) : Int)) (ends (acc ++ core (c :: d))) := by
      refine Ev.step (fun k => by simp only [wicketref09_Normal.j2]; rfl) (Ev.bind (letter9_ev (up c)) ?_)
      rw [core_cons]
      by_cases hm : up c ∈ lets
      · rw [decide_eq_true hm]
        have hnm : c ∉ marks := fun h => mark_let (up c) (by rw [(up_mark c hc).1 h]; exact h) hm
        rw [if_neg hnm]
        have hs1 : strOfNums [((up c : Nat) : Int)] = txt [up c] := rfl
        have hs2 : (txt [up c]).size = 1 := txt_size _
        refine Ev.pos rfl (Ev.congr (fun k => ?_) (Ev.eq (rnormal_loop s hs d (i + 1) (acc ++ [up c]) h3 (by simp; omega) (fun x hx => ?_)) (by rw [List.append_assoc])))
        · show (if _ then _ else _) = _
          rw [hs1, if_pos (by omega), hw, ← txt_app _ _ (isCode_256 ha) (All.one hu)]
        · rcases List.mem_append.1 hx with hx | hx
          · exact ha x hx
          · rw [List.mem_singleton.1 hx]; exact hm
      · rw [decide_eq_false hm]
        refine Ev.neg (by simp) ?_
        by_cases hk : up c ∈ marks
        · have hcm := (up_mark c hc).2 hk
          rw [if_pos hcm, List.nil_append]
          have ih := rnormal_loop s hs d (i + 1) acc h3 (by omega) ha
          rw [hw]
          rcases marks_int _ hk with h | h | h | h | h
          · exact Ev.pos h ih
          · exact Ev.neg (by omega) (Ev.pos h ih)
          · exact Ev.neg (by omega) (Ev.neg (by omega) (Ev.pos h ih))
          · exact Ev.neg (by omega) (Ev.neg (by omega) (Ev.neg (by omega) (Ev.pos h ih)))
          · exact Ev.neg (by omega) (Ev.neg (by omega) (Ev.neg (by omega) (Ev.neg (by omega) (Ev.pos h ih))))
        · obtain ⟨g1, g2, g3, g4, g5⟩ := marks_not _ hk
          have hnm : c ∉ marks := fun h => hk (by rw [(up_mark c hc).1 h]; exact h)
          rw [if_neg hnm]
          have he : ends (acc ++ ([up c] ++ core d)) = ((⟨#[]⟩ : ByteArray), 91) := by
            unfold ends
            rw [if_neg (fun h => hm ((isCode_spec.1 h).2 (up c) (by simp)))]
          rw [he]
          exact Ev.neg g1 (Ev.neg g2 (Ev.neg g3 (Ev.neg g4 (Ev.neg g5 (Ev.now _)))))
    refine Ev.step (fun k => ?_) (Ev.step (f := fun k => wicketref09_Normal.j2 k s (txt acc) (i : Int) ((up c : Nat) : Int)) (g := fun k => wicketref09_Normal.j1 k s (txt acc) (i : Int) (c : Int) (decide (97 ≤ c ∧ c ≤ 122))) (fun k => ?_) hj2)
    · simp only [wicketref09_Normal.l0]
      rw [if_pos (by omega), if_pos (by omega), hb]
      by_cases h97 : 97 ≤ c
      · rw [if_pos (by omega)]
        congr 1
        rw [decide_eq_decide]
        omega
      · rw [if_neg (by omega)]
        congr 1
        exact (decide_eq_false (by omega)).symm
    · simp only [wicketref09_Normal.j1]
      by_cases h : 97 ≤ c ∧ c ≤ 122
      · rw [if_pos (decide_eq_true h), up_int c h.1 h.2]
      · rw [if_neg (by simpa using h), up_low c h]
theorem rnormal_ev (s : ByteArray) : Ev (fun k => wicketref09_Normal.f k s) (txt (normal (sN s)).1, ((normal (sN s)).2 : Int)) := by
  unfold wicketref09_Normal.f normal
  rw [sN_len]
  by_cases h : 64 < s.size
  · refine Ev.pos (by omega) (Ev.eq (Ev.now _) ?_)
    rw [if_pos h]
    rfl
  · refine Ev.neg (by omega) (Ev.eq (rnormal_loop s (by omega) (sN s) 0 [] (by simp) (by simp) (fun x hx => by cases hx)) ?_)
    rw [if_neg h, List.nil_append]
    unfold ends
    split <;> rfl
end Go.Proofs.Ytaeipffenlkjpaa.Sha
