/-
  What the reference's Unescape, pair and Parse compute (the printed functions), on lists of bytes.
-/
import Derived.Test.YtgfnjdpbahecdaaDoorPAllx7
import Derived.Test.YtgfnjdpbahecdaaDoorPure03a
import Derived.Lib.LazyBuf
namespace Go.Proofs.YtgfnjdpbahecdaaDoor.Pure
open Go.RowKit Go.Proofs.YtgfnjdpbahecdaaDoorW.PrintWords Go.Proofs.YtgfnjdpbahecdaaDoor.Plain Go.Proofs.YtgfnjdpbahecdaaDoor.Spec Go.Proofs.YtgfnjdpbahecdaaDoor.PAll
set_option linter.unusedSimpArgs false
set_option linter.unusedVariables false
theorem digit_ev (c : UInt8) : Ev (fun k => wicketref03_digit.f k (c.toNat : Int)) (hexI c) := by
  have hc := c.toNat_lt
  unfold wicketref03_digit.f hexI
  by_cases h1 : 48 ≤ (c.toNat : Int) ∧ (c.toNat : Int) ≤ 57
  · rw [if_pos h1]
    refine Ev.pos (by omega) (Ev.step (f := fun _ => some ((c.toNat : Int) - 48)) (fun k => ?_) (Ev.now _))
    simp only [wicketref03_digit.j0]
    rw [if_pos (by simpa using h1.2), Int.emod_eq_of_lt (by omega) (by omega)]
  · rw [if_neg h1]
    have hj : Ev (fun k => wicketref03_digit.j0 k (c.toNat : Int) false) (if 97 ≤ (c.toNat : Int) ∧ (c.toNat : Int) ≤ 102 then (c.toNat : Int) - 97 + 10 else if 65 ≤ (c.toNat : Int) ∧ (c.toNat : Int) ≤ 70 then (c.toNat : Int) - 65 + 10 else -1) := by
      have hj1 : ∀ b : Bool, b = decide (97 ≤ (c.toNat : Int) ∧ (c.toNat : Int) ≤ 102) → Ev (fun k => wicketref03_digit.j1 k (c.toNat : Int) b) (if 97 ≤ (c.toNat : Int) ∧ (c.toNat : Int) ≤ 102 then (c.toNat : Int) - 97 + 10 else if 65 ≤ (c.toNat : Int) ∧ (c.toNat : Int) ≤ 70 then (c.toNat : Int) - 65 + 10 else -1) := by
        intro b hb
        refine Ev.step (f := fun _ => some _) (fun k => ?_) (Ev.now _)
        simp only [wicketref03_digit.j1]
        by_cases h2 : 97 ≤ (c.toNat : Int) ∧ (c.toNat : Int) ≤ 102
        · rw [if_pos (by rw [hb]; simpa using h2), if_pos h2, Int.emod_eq_of_lt (by omega) (by omega)]
        · rw [if_neg (by rw [hb]; simpa using h2), if_neg h2]
          by_cases h3 : 65 ≤ (c.toNat : Int) ∧ (c.toNat : Int) ≤ 70
          · rw [if_pos h3, if_pos h3.1, if_pos h3.2, Int.emod_eq_of_lt (by omega) (by omega)]
          · rw [if_neg h3]
            by_cases h4 : (c.toNat : Int) ≥ 65
            · rw [if_pos h4, if_neg (by omega)]
            · rw [if_neg h4]
      by_cases h5 : (c.toNat : Int) ≥ 97
      · refine Ev.step (fun k => ?_) (hj1 (decide ((c.toNat : Int) ≤ 102)) (by rw [decide_eq_decide]; omega))
        simp only [wicketref03_digit.j0]
        rw [if_neg (by simp), if_pos h5]
      · refine Ev.step (fun k => ?_) (hj1 false (by rw [eq_comm, decide_eq_false_iff_not]; omega))
        simp only [wicketref03_digit.j0]
        rw [if_neg (by simp), if_neg h5]
    by_cases h6 : (c.toNat : Int) ≥ 48
    · refine Ev.pos h6 ?_
      rw [decide_eq_false (by omega)]
      exact hj
    · exact Ev.neg h6 hj
def n8 (l : List UInt8) : List Int := l.map fun b => (b.toNat : Int)
theorem n8_len (l : List UInt8) : (n8 l).length = l.length := List.length_map ..
theorem n8_snoc (l : List UInt8) (c : UInt8) : n8 l ++ [(c.toNat : Int)] = n8 (l ++ [c]) := by simp [n8]
theorem str_n8 (l : List UInt8) : strOfNums (n8 l) = bs l := Lib.Lz.strOfNums_map l
theorem bt_get (s : ByteArray) (i : Nat) (h : i < s.size) : bt s (i : Int) = (s[i].toNat : Int) := by
  unfold bt
  rw [dif_pos (by simpa using h)]
  rfl
theorem u8_of (n : Int) (h0 : 0 ≤ n) (h1 : n < 256) : ((UInt8.ofNat n.toNat).toNat : Int) = n := by
  rw [UInt8.toNat_ofNat']; omega
theorem u8_lit (c : UInt8) (n : Nat) (h : c.toNat = n) : c = UInt8.ofNat n := by rw [← h, UInt8.ofNat_toNat]
def resU (r : List UInt8 × Int × Int) : ByteArray × Int × Int := (bs r.1, r.2.1, r.2.2)
theorem refun_loop (s : ByteArray) (hs : s.size ≤ 140737488351232) : ∀ (m i : Nat) (acc : List UInt8), s.size ≤ i + m → i ≤ s.size → acc.length ≤ i →
    Ev (fun k => wicketref03_Unescape.l0 k s (n8 acc) (i : Int)) (resU (unescL (s.data.toList.drop i) i acc)) := by
  intro m
  induction m with
  | zero =>
    intro i acc hi hi2 ha
    rw [List.drop_eq_nil_of_le (by rw [data_len]; omega)]
    refine Ev.step (f := fun _ => some (bs acc, 0, 0)) (fun k => ?_) (Ev.eq (Ev.now _) rfl)
    simp only [wicketref03_Unescape.l0]
    simp (disch := omega) only [↓if_pos, ↓if_neg, str_n8]
  | succ m ih =>
    intro i acc hi hi2 ha
    by_cases hlt : i < s.size
    · have hbt := bt_get s i hlt
      have hal := n8_len acc
      rw [drop_at s i hlt]
      generalize hc : s[i] = c at *
      have hl0 : Ev (fun k => wicketref03_Unescape.j1 k s (n8 acc) (i : Int) (c.toNat : Int) (decide ((c.toNat : Int) < 33 ∨ 126 < (c.toNat : Int)))) (resU (unescL (c :: s.data.toList.drop (i + 1)) i acc)) → Ev (fun k => wicketref03_Unescape.l0 k s (n8 acc) (i : Int)) (resU (unescL (c :: s.data.toList.drop (i + 1)) i acc)) := by
        refine fun h => Ev.step (fun k => ?_) h
        simp only [wicketref03_Unescape.l0]
        rw [if_pos (by omega), if_pos (by omega), hbt]
        by_cases h1 : (c.toNat : Int) < 33
        · rw [if_pos h1, decide_eq_true (Or.inl h1)]
        · rw [if_neg h1]
          congr 1
          rw [decide_eq_decide]
          omega
      refine hl0 ?_
      clear hl0
      by_cases hb : (c.toNat : Int) < 33 ∨ 126 < (c.toNat : Int)
      · rw [decide_eq_true hb, unescL_bad _ _ _ _ hb]
        refine Ev.step (f := fun _ => some (⟨#[]⟩, 31, (i : Int))) (fun k => ?_) (Ev.eq (Ev.now _) rfl)
        simp only [wicketref03_Unescape.j1, if_true]
      · rw [decide_eq_false hb]
        by_cases h1 : c = 43
        · rw [unescL_plus _ _ _ _ h1]
          have h1' : (c.toNat : Int) = 43 := by rw [h1]; rfl
          refine Ev.step (fun k => ?_) (ih (i + 1) (acc ++ [32]) (by omega) (by omega) (by rw [List.length_append, List.length_singleton]; omega))
          simp only [wicketref03_Unescape.j1]
          simp (disch := omega) only [↓if_pos, ↓if_neg, Bool.false_eq_true, if_false, w64, ← n8_snoc]
          rfl
        · have h1' : ¬ (c.toNat : Int) = 43 := fun e => h1 (u8_lit c 43 (by omega))
          by_cases h2 : c = 37
          · have h2' : (c.toNat : Int) = 37 := by rw [h2]; rfl
            have hbad : ∀ k, wicketref03_Unescape.j2 (k + 1) s (n8 acc) (i : Int) true = some (⟨#[]⟩, 30, (i : Int)) := fun k => by
              simp only [wicketref03_Unescape.j2, if_true]
            have hbadE : Ev (fun k => wicketref03_Unescape.j2 k s (n8 acc) (i : Int) true) ((⟨#[]⟩ : ByteArray), 30, (i : Int)) := Ev.step (f := fun _ => some _) hbad (Ev.now _)
            by_cases h3 : i + 2 < s.size
            · have hd := digit_ev s[i + 1]
              have he := digit_ev s[i + 2]
              have r1 := hexI_range s[i + 1]
              have r2 := hexI_range s[i + 2]
              have hb1 : bt s ((i : Int) + 1) = (s[i + 1].toNat : Int) := bt_get s (i + 1) (by omega)
              have hb2 : bt s ((i : Int) + 2) = (s[i + 2].toNat : Int) := bt_get s (i + 2) (by omega)
              rw [drop_at s (i + 1) (by omega), drop_at s (i + 2) (by omega)]
              have ih3 := ih (i + 3)
              generalize s[i + 1] = d at *
              generalize s[i + 2] = e at *
              refine Ev.step (f := fun k => (wicketref03_digit.f k (d.toNat : Int)).bind fun t155 => (if t155 < 0 then (wicketref03_Unescape.j2 k s (n8 acc) (i : Int) true) else (wicketref03_digit.f k (e.toNat : Int)).bind fun t156 => (wicketref03_Unescape.j2 k s (n8 acc) (i : Int) (decide (t156 < 0))))) (fun k => ?_) ?_
              · simp only [wicketref03_Unescape.j1]
                simp (disch := omega) only [↓if_pos, ↓if_neg, Bool.false_eq_true, if_false, w64, hb1, hb2]
              · refine Ev.bind hd ?_
                by_cases h4 : hexI d < 0
                · rw [unescL_nohex _ _ _ _ _ _ h2 (.inl h4)]
                  exact Ev.pos h4 hbadE
                · refine Ev.neg h4 (Ev.bind he ?_)
                  by_cases h5 : hexI e < 0
                  · rw [unescL_nohex _ _ _ _ _ _ h2 (.inr h5), decide_eq_true h5]
                    exact hbadE
                  · rw [unescL_hex c d e _ _ _ h2 (by omega), decide_eq_false h5]
                    have hv := u8_of (16 * hexI d + hexI e) (by omega) (by omega)
                    refine Ev.step (f := fun k => (wicketref03_digit.f k (d.toNat : Int)).bind fun t157 => (wicketref03_digit.f k (e.toNat : Int)).bind fun t158 => (wicketref03_Unescape.l0 k s (n8 acc ++ [(wrap64 ((wrap64 (16 * t157)) + t158)) % 256]) ((i + 3 : Nat) : Int))) (fun k => ?_) ?_
                    · simp only [wicketref03_Unescape.j2]
                      simp (disch := omega) only [↓if_pos, ↓if_neg, Bool.false_eq_true, if_false, w64, hb1, hb2]
                      rw [show (i : Int) + 2 + 1 = ((i + 3 : Nat) : Int) by omega]
                    · refine Ev.bind hd (Ev.bind he ?_)
                      rw [w64 (x := 16 * hexI d) (by omega) (by omega), w64 (by omega) (by omega), Int.emod_eq_of_lt (by omega) (by omega)]
                      have key := ih3 (acc ++ [UInt8.ofNat (16 * hexI d + hexI e).toNat]) (by omega) (by omega) (by rw [List.length_append, List.length_singleton]; omega)
                      rw [← n8_snoc, hv] at key
                      exact key
            · rw [unescL_short _ _ _ _ h2 (by rw [List.length_drop, data_len]; omega)]
              refine Ev.step (fun k => ?_) hbadE
              simp only [wicketref03_Unescape.j1]
              simp (disch := omega) only [↓if_pos, ↓if_neg, Bool.false_eq_true, if_false, w64]
          · have h2' : ¬ (c.toNat : Int) = 37 := fun e => h2 (u8_lit c 37 (by omega))
            rw [unescL_keep _ _ _ _ hb h1 h2]
            refine Ev.step (fun k => ?_) (ih (i + 1) (acc ++ [c]) (by omega) (by omega) (by rw [List.length_append, List.length_singleton]; omega))
            simp only [wicketref03_Unescape.j1]
            simp (disch := omega) only [↓if_pos, ↓if_neg, Bool.false_eq_true, if_false, w64, ← n8_snoc]
            rfl
    · have he : i = s.size := by omega
      rw [List.drop_eq_nil_of_le (by rw [data_len]; omega)]
      refine Ev.step (f := fun _ => some (bs acc, 0, 0)) (fun k => ?_) (Ev.eq (Ev.now _) rfl)
      simp only [wicketref03_Unescape.l0]
      simp (disch := omega) only [↓if_pos, ↓if_neg, str_n8]
theorem refun_ev (s : ByteArray) (hs : s.size ≤ 140737488351232) : Ev (fun k => wicketref03_Unescape.f k s) (resU (unescL s.data.toList 0 [])) := by
  unfold wicketref03_Unescape.f
  exact refun_loop s hs s.size 0 [] (by omega) (by omega) (by simp)

/-! ### pair and Parse -/
theorem extract_data (s : ByteArray) (a b : Nat) (h : b ≤ s.size) : (s.extract a b).data.toList = (s.data.toList.drop a).take (b - a) := by
  rw [ByteArray.data_extract, Array.toList_extract]
def mk61 (p : ByteArray × ByteArray) : S61 := ⟨p.1, p.2⟩
def resP (r : (ByteArray × ByteArray) × Int × Int) : ByteArray × ByteArray × Int × Int := (r.1.1, r.1.2, r.2.1, r.2.2)
def res61 (r : List (ByteArray × ByteArray) × Int × Int) : List S61 × Int × Int := (r.1.map mk61, r.2.1, r.2.2)
theorem refpair_end (s : ByteArray) (hs : s.size ≤ 16384) (a b j : Nat) (hb : b ≤ s.size) (haj : a + j ≤ b) (h61 : 61 ∉ ((s.data.toList.drop a).take (b - a)).take j) (hj : a + j = b ∨ (∃ h : a + j < s.size, s[a + j] = 61)) :
    Ev (fun k => wicketref03_pair.j1 k s (a : Int) (b : Int) ((a + j : Nat) : Int)) (resP (pairP a ((s.data.toList.drop a).take (b - a)))) := by
  have hx1 := extract_data s a (a + j) (by omega)
  have e1 : a + j - a = j := by omega
  have hname : (s.extract a (a + j)).data.toList = ((s.data.toList.drop a).take (b - a)).take j := by
    rw [hx1, e1, List.take_take, Nat.min_eq_left (by omega)]
  have hzn : (s.extract a (a + j)).size ≤ 140737488351232 := by rw [ByteArray.size_extract]; omega
  have hun := refun_ev (s.extract a (a + j)) hzn
  rw [hname] at hun
  have hpl := place_of (((s.data.toList.drop a).take (b - a)).take j)
  have hll : (((s.data.toList.drop a).take (b - a)).take j).length = j := by
    rw [List.length_take, List.length_take, List.length_drop, data_len]; omega
  by_cases hend : a + j = b
  · have htk : ((s.data.toList.drop a).take (b - a)).take j = (s.data.toList.drop a).take (b - a) := List.take_of_length_le (by rw [List.length_take]; omega)
    rw [htk] at hun h61 hpl hll
    unfold pairP
    rw [cutL_miss 61 _ h61]
    generalize (s.data.toList.drop a).take (b - a) = p at *
    refine Ev.step (f := fun k => (wicketref03_Unescape.f k (s.extract a (a + j))).bind fun bt166 => (if bt166.2.1 = 0 then (some (bt166.1, (⟨#[]⟩ : ByteArray), 0, 0)) else (some ((⟨#[]⟩ : ByteArray), (⟨#[]⟩ : ByteArray), bt166.2.1, wrap64 ((a : Int) + bt166.2.2))))) (fun k => ?_) ?_
    · simp only [wicketref03_pair.j1]
      simp (disch := omega) only [↓if_pos, ↓if_neg, Int.toNat_natCast]
    · refine Ev.bind hun ?_
      by_cases h0 : (unescL p 0 []).2.1 = 0
      · exact Ev.pos h0 (Ev.eq (Ev.now _) (by rw [if_pos h0]; rfl))
      · refine Ev.neg h0 (Ev.eq (Ev.now _) ?_)
        rw [if_neg h0]
        show (_, _, _, wrap64 ((a : Int) + (unescL p 0 []).2.2)) = _
        rw [w64 (by omega) (by omega)]
        rfl
  · obtain ⟨hlt, h61b⟩ := hj.resolve_left hend
    have hcut : (s.data.toList.drop a).take (b - a) = ((s.data.toList.drop a).take (b - a)).take j ++ 61 :: (s.data.toList.drop (a + j + 1)).take (b - (a + j + 1)) := by
      conv => lhs; rw [← List.take_append_drop j ((s.data.toList.drop a).take (b - a))]
      congr 1
      rw [List.drop_take, List.drop_drop, drop_at s (a + j) hlt, h61b, show b - a - j = (b - (a + j + 1)) + 1 by omega, List.take_succ_cons]
    have hx2 := extract_data s (a + j + 1) b hb
    have hzv : (s.extract (a + j + 1) b).size ≤ 140737488351232 := by rw [ByteArray.size_extract]; omega
    have huv := refun_ev (s.extract (a + j + 1) b) hzv
    rw [hx2] at huv
    have hpv := place_of ((s.data.toList.drop (a + j + 1)).take (b - (a + j + 1)))
    have hlv : ((s.data.toList.drop (a + j + 1)).take (b - (a + j + 1))).length = b - (a + j + 1) := by
      rw [List.length_take, List.length_drop, data_len]; omega
    have hP := cutL_hit 61 ((s.data.toList.drop (a + j + 1)).take (b - (a + j + 1))) _ h61
    rw [← hcut] at hP
    unfold pairP
    rw [hP]
    generalize ((s.data.toList.drop a).take (b - a)).take j = n at *
    generalize (s.data.toList.drop (a + j + 1)).take (b - (a + j + 1)) = v at *
    refine Ev.step (f := fun k => (wicketref03_Unescape.f k (s.extract a (a + j))).bind fun bt166 => (if bt166.2.1 = 0 then ((wicketref03_Unescape.f k (s.extract (a + j + 1) b)).bind fun bt169 => (if bt169.2.1 = 0 then (some (bt166.1, bt169.1, 0, 0)) else (some ((⟨#[]⟩ : ByteArray), (⟨#[]⟩ : ByteArray), bt169.2.1, wrap64 (((a + j : Nat) : Int) + 1 + bt169.2.2))))) else (some ((⟨#[]⟩ : ByteArray), (⟨#[]⟩ : ByteArray), bt166.2.1, wrap64 ((a : Int) + bt166.2.2))))) (fun k => ?_) ?_
    · simp only [wicketref03_pair.j1]
      simp (disch := omega) only [↓if_pos, ↓if_neg, Int.toNat_natCast, w64]
      rfl
    · refine Ev.bind hun ?_
      by_cases h0 : (unescL n 0 []).2.1 = 0
      · refine Ev.pos h0 (Ev.bind huv ?_)
        rw [if_pos h0]
        by_cases h1 : (unescL v 0 []).2.1 = 0
        · exact Ev.pos h1 (Ev.eq (Ev.now _) (by rw [if_pos h1]; rfl))
        · refine Ev.neg h1 (Ev.eq (Ev.now _) ?_)
          rw [if_neg h1]
          show (_, _, _, wrap64 (((a + j : Nat) : Int) + 1 + (unescL v 0 []).2.2)) = _
          rw [w64 (by omega) (by omega)]
          unfold resP
          simp only [hll]
          congr 3
      · refine Ev.neg h0 (Ev.eq (Ev.now _) ?_)
        rw [if_neg h0]
        show (_, _, _, wrap64 ((a : Int) + (unescL n 0 []).2.2)) = _
        rw [w64 (by omega) (by omega)]
        rfl
theorem refpair_loop (s : ByteArray) (hs : s.size ≤ 16384) (a b : Nat) (hb : b ≤ s.size) : ∀ (m j : Nat), a + j + m = b → 61 ∉ ((s.data.toList.drop a).take (b - a)).take j →
    Ev (fun k => wicketref03_pair.l0 k s (a : Int) (b : Int) ((a + j : Nat) : Int)) (resP (pairP a ((s.data.toList.drop a).take (b - a)))) := by
  intro m
  induction m with
  | zero =>
    intro j hj h61
    refine Ev.step (fun k => ?_) (refpair_end s hs a b j hb (by omega) h61 (.inl (by omega)))
    simp only [wicketref03_pair.l0]
    rw [if_neg (by omega)]
  | succ m ih =>
    intro j hj h61
    have hlt : a + j < s.size := by omega
    have hbt := bt_get s (a + j) hlt
    by_cases he : s[a + j] = 61
    · refine Ev.step (fun k => ?_) (refpair_end s hs a b j hb (by omega) h61 (.inr ⟨hlt, he⟩))
      have he' : (s[a + j].toNat : Int) = 61 := by rw [he]; rfl
      simp only [wicketref03_pair.l0]
      rw [if_pos (by omega), if_pos (by omega), if_pos (by omega), hbt, if_pos he']
    · refine Ev.step (fun k => ?_) (ih (j + 1) (by omega) ?_)
      · have he' : ¬ (s[a + j].toNat : Int) = 61 := fun e => he (u8_lit _ 61 (by omega))
        simp only [wicketref03_pair.l0]
        rw [if_pos (by omega), if_pos (by omega), if_pos (by omega), hbt, if_neg he', w64 (by omega) (by omega)]
        rfl
      · have hlen : j < ((s.data.toList.drop a).take (b - a)).length := by rw [List.length_take, List.length_drop, data_len]; omega
        rw [List.take_succ_eq_append_getElem hlen, List.mem_append, not_or]
        refine ⟨h61, ?_⟩
        rw [List.mem_singleton, List.getElem_take, List.getElem_drop]
        exact fun e => he e.symm
theorem refpair_ev (s : ByteArray) (hs : s.size ≤ 16384) (a b : Nat) (hb : b ≤ s.size) (hab : a ≤ b) :
    Ev (fun k => wicketref03_pair.f k s (a : Int) (b : Int)) (resP (pairP a ((s.data.toList.drop a).take (b - a)))) := by
  unfold wicketref03_pair.f
  exact refpair_loop s hs a b hb (b - a) 0 (by omega) (by simp)
def restAt (l : List UInt8) (j : Nat) : List (List UInt8) := if j ≤ l.length then splitL 38 (l.drop j) else []
theorem refparse_loop (s : ByteArray) (hs : s.size ≤ 16384) : ∀ (m a i : Nat) (acc : List (ByteArray × ByteArray)), i + m = s.size + 1 → a ≤ i → (m = 0 → a = i) → acc.length ≤ 64 → 38 ∉ (s.data.toList.drop a).take (i - a) →
    Ev (fun k => wicketref03_Parse.l0 k s (acc.map mk61) (a : Int) (i : Int)) (res61 (parseL (restAt s.data.toList a) a acc)) := by
  intro m
  induction m with
  | zero =>
    intro a i acc hi hai h0 ha _
    have := h0 rfl
    subst this
    refine Ev.step (f := fun _ => some (acc.map mk61, 0, 0)) (fun k => ?_) (Ev.eq (Ev.now _) ?_)
    · simp only [wicketref03_Parse.l0]; rw [if_neg (by omega)]
    · unfold restAt; rw [if_neg (by rw [data_len]; omega)]; rfl
  | succ m ih =>
    intro a i acc hi hai _ ha h38
    have hal : (acc.map mk61).length = acc.length := List.length_map ..
    by_cases hgo : ∃ h : i < s.size, s[i] ≠ 38
    · obtain ⟨hlt, hne⟩ := hgo
      have hbt := bt_get s i hlt
      have hne' : ((s[i].toNat : Int) != 38) = true := by
        rw [bne_iff_ne]; exact fun e => hne (u8_lit _ 38 (by omega))
      refine Ev.step (f := fun k => wicketref03_Parse.j1 k s (acc.map mk61) (a : Int) (i : Int) true) (fun k => ?_) ?_
      · simp only [wicketref03_Parse.l0]
        rw [if_pos (by omega), if_pos (by omega), if_pos (by omega), hbt, hne']
      · refine Ev.step (fun k => ?_) (ih a (i + 1) acc (by omega) (by omega) (by omega) ha ?_)
        · simp only [wicketref03_Parse.j1, if_true]
          rw [w64 (by omega) (by omega)]
          rfl
        · rw [show i + 1 - a = (i - a) + 1 by omega]
          have hlen : i - a < (s.data.toList.drop a).length := by rw [List.length_drop, data_len]; omega
          rw [List.take_succ_eq_append_getElem hlen, List.mem_append, not_or]
          refine ⟨h38, ?_⟩
          rw [List.mem_singleton, List.getElem_drop]
          intro e
          refine hne ?_
          rw [e]
          show s.data.toList[i] = _
          congr 1
          omega
    · have hrest : restAt s.data.toList a = (s.data.toList.drop a).take (i - a) :: restAt s.data.toList (i + 1) := by
        unfold restAt
        rw [data_len, if_pos (by omega)]
        by_cases hlt : i < s.size
        · have h38i : s[i] = 38 := Classical.byContradiction fun e => hgo ⟨hlt, e⟩
          rw [if_pos (by omega)]
          have hcut : s.data.toList.drop a = (s.data.toList.drop a).take (i - a) ++ 38 :: s.data.toList.drop (i + 1) := by
            conv => lhs; rw [← List.take_append_drop (i - a) (s.data.toList.drop a)]
            congr 1
            rw [List.drop_drop, show a + (i - a) = i by omega, drop_at s i hlt, h38i]
          conv => lhs; rw [hcut]
          rw [splitL_hit 38 _ _ h38]
        · rw [if_neg (by omega)]
          have hz : (s.data.toList.drop a).take (i - a) = s.data.toList.drop a := List.take_of_length_le (by rw [List.length_drop, data_len]; omega)
          rw [hz] at h38 ⊢
          exact splitL_whole 38 _ h38
      have hplen : ((s.data.toList.drop a).take (i - a)).length = i - a := by rw [List.length_take, List.length_drop, data_len]; omega
      rw [hrest, parseL_cons]
      have hl0 : ∀ r, Ev (fun k => wicketref03_Parse.j1 k s (acc.map mk61) (a : Int) (i : Int) false) r → Ev (fun k => wicketref03_Parse.l0 k s (acc.map mk61) (a : Int) (i : Int)) r := by
        refine fun r h => Ev.step (fun k => ?_) h
        simp only [wicketref03_Parse.l0]
        rw [if_pos (by omega)]
        by_cases hlt : i < s.size
        · have h38i : s[i] = 38 := Classical.byContradiction fun e => hgo ⟨hlt, e⟩
          have hbt := bt_get s i hlt
          rw [if_pos (by omega), if_pos (by omega), hbt, h38i]
          rfl
        · rw [if_neg (by omega)]
      refine hl0 _ ?_
      have hpair := refpair_ev s hs a i (by omega) hai
      have hnext : ∀ bcc : List (ByteArray × ByteArray), bcc.length ≤ 64 → Ev (fun k => wicketref03_Parse.l0 k s (bcc.map mk61) ((i + 1 : Nat) : Int) ((i + 1 : Nat) : Int)) (res61 (parseL (restAt s.data.toList (i + 1)) (i + 1) bcc)) := fun bcc hb => ih (i + 1) (i + 1) bcc (by omega) (by omega) (fun _ => rfl) hb (by simp)
      have hw : wrap64 ((i : Int) + 1) = ((i + 1 : Nat) : Int) := by rw [w64 (by omega) (by omega)]; rfl
      generalize hp : (s.data.toList.drop a).take (i - a) = p at *
      by_cases h1 : p = []
      · rw [if_pos h1]
        rw [h1] at hplen
        simp only [List.length_nil] at hplen
        have hia : i = a := by omega
        refine Ev.step (fun k => ?_) (Ev.eq (hnext acc ha) (by rw [hia]))
        simp only [wicketref03_Parse.j1]
        rw [if_neg (by simp), if_neg (by omega), hw]
      · rw [if_neg h1]
        have hpos : 0 < p.length := List.length_pos_iff.2 h1
        by_cases h2 : acc.length = 64
        · rw [if_pos h2]
          refine Ev.step (f := fun _ => some ([], 32, (a : Int))) (fun k => ?_) (Ev.eq (Ev.now _) rfl)
          simp only [wicketref03_Parse.j1]
          rw [if_neg (by simp), if_pos (by omega), if_pos (by omega)]
        · rw [if_neg h2]
          refine Ev.step (f := fun k => (wicketref03_pair.f k s (a : Int) (i : Int)).bind fun bt172 => (if bt172.2.2.1 = 0 then (if (acc.map mk61).length < 4398046511104 then (wicketref03_Parse.l0 k s ((acc.map mk61) ++ [(⟨bt172.1, bt172.2.1⟩ : S61)]) ((i + 1 : Nat) : Int) ((i + 1 : Nat) : Int)) else (none)) else (some (([] : List (S61)), bt172.2.2.1, bt172.2.2.2)))) (fun k => ?_) ?_
          · simp only [wicketref03_Parse.j1]
            rw [if_neg (by simp), if_pos (by omega), if_neg (by omega), hw]
          · refine Ev.bind hpair ?_
            by_cases h3 : (pairP a p).2.1 = 0
            · rw [if_pos h3]
              refine Ev.pos h3 (Ev.pos (by omega) ?_)
              have := hnext (acc ++ [(pairP a p).1]) (by rw [List.length_append, List.length_singleton]; omega)
              rw [show a + p.length + 1 = i + 1 by omega]
              rw [List.map_append] at this
              exact this
            · rw [if_neg h3]
              exact Ev.neg h3 (Ev.eq (Ev.now _) rfl)
theorem refparse_ev (s : ByteArray) : Ev (fun k => wicketref03_Parse.f k s) (res61 (parse s.data.toList)) := by
  unfold wicketref03_Parse.f parse
  rw [data_len]
  by_cases h : s.size > 16384
  · rw [if_pos h]
    exact Ev.pos (by omega) (Ev.now _)
  · rw [if_neg h]
    refine Ev.neg (by omega) ?_
    exact refparse_loop s (by omega) (s.size + 1) 0 0 [] (by omega) (by omega) (by omega) (by simp) (by simp)
end Go.Proofs.YtgfnjdpbahecdaaDoor.Pure
