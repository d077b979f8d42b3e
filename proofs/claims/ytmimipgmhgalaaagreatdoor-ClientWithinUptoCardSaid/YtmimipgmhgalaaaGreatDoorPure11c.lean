/-
  What the reference's Check computes (the printed function), on lists of bytes: the same as the client's.
-/
import Derived.Test.YtmimipgmhgalaaaGreatDoorPure11b
import Derived.Test.YtmimipgmhgalaaaGreatDoorPAllx19
namespace Go.Proofs.YtmimipgmhgalaaaGreatDoor.Pure
open Go.RowKit Go.Proofs.YtmimipgmhgalaaaGreatDoorW.PrintWords Go.Proofs.YtmimipgmhgalaaaGreatDoor.Plain Go.Proofs.YtmimipgmhgalaaaGreatDoor.Spec Go.Proofs.YtmimipgmhgalaaaGreatDoor.PAll
set_option linter.unusedSimpArgs false
set_option linter.unusedVariables false
theorem bs_app (a b : List UInt8) : bs a ++ bs b = bs (a ++ b) := by
  have : (bs a ++ bs b).data.toList = (bs (a ++ b)).data.toList := by simp [bs]
  rw [← bs_of (bs a ++ bs b), this, bs_of]
theorem bytes_loop (s : ByteArray) (hs : s.size ≤ 140737488355328) (lo up least most : Nat) : ∀ (m i : Nat), i + m = s.size →
    Ev (fun k => wicketref11_bytes.l0 k s (lo : Int) (up : Int) (least : Int) (most : Int) (i : Int)) ((s.data.toList.drop i).all (fun c => decide (lo ≤ c.toNat) && decide (c.toNat ≤ up)) && (decide (least ≤ s.size) && decide (s.size ≤ most))) := by
  intro m
  induction m with
  | zero =>
    intro i hi
    rw [List.drop_eq_nil_of_le (by rw [data_len]; omega), List.all_nil, Bool.true_and]
    by_cases h : least ≤ s.size
    · refine Ev.step (f := fun _ => some (decide ((s.size : Int) ≤ (most : Int)))) (fun k => ?_) (Ev.eq (Ev.now _) ?_)
      · simp only [wicketref11_bytes.l0]; rw [if_neg (by omega), if_pos (by omega)]
      · rw [decide_eq_true h, Bool.true_and, decide_eq_decide]; omega
    · refine Ev.step (f := fun _ => some false) (fun k => ?_) (Ev.eq (Ev.now _) ?_)
      · simp only [wicketref11_bytes.l0]; rw [if_neg (by omega), if_neg (by omega)]
      · rw [decide_eq_false h, Bool.false_and]
  | succ m ih =>
    intro i hi
    have hlt : i < s.size := by omega
    have hbt := btC s i hlt
    rw [drop_at s i hlt, List.all_cons]
    have ih1 := ih (i + 1) (by omega)
    generalize s[i] = c at *
    by_cases h1 : lo ≤ c.toNat
    · by_cases h2 : c.toNat ≤ up
      · rw [decide_eq_true h1, decide_eq_true h2, Bool.true_and, Bool.true_and]
        refine Ev.step (fun k => ?_) ih1
        simp only [wicketref11_bytes.l0]
        rw [if_pos (by omega), if_pos (by omega), hbt, if_neg (by omega), if_neg (by omega), w64 (by omega) (by omega)]
        rfl
      · rw [decide_eq_false h2, Bool.and_false, Bool.false_and, Bool.false_and]
        refine Ev.step (f := fun _ => some false) (fun k => ?_) (Ev.now _)
        simp only [wicketref11_bytes.l0]
        rw [if_pos (by omega), if_pos (by omega), hbt, if_neg (by omega), if_pos (by omega)]
    · rw [decide_eq_false h1, Bool.false_and, Bool.false_and, Bool.false_and]
      refine Ev.step (f := fun _ => some false) (fun k => ?_) (Ev.now _)
      simp only [wicketref11_bytes.l0]
      rw [if_pos (by omega), if_pos (by omega), hbt, if_pos (by omega)]
theorem bytes_ev (s : ByteArray) (hs : s.size ≤ 140737488355328) (least most lo : Nat) : Ev (fun k => wicketref11_bytes.f k s (lo : Int) 126 (least : Int) (most : Int)) (withinL s.data.toList least most lo) := by
  unfold wicketref11_bytes.f withinL
  have := bytes_loop s hs lo 126 least most s.size 0 (by omega)
  rw [data_len]
  exact this
theorem texts_loop (a b : List ByteArray) (ha : a.length ≤ 140737488355328) (hab : a.length = b.length) : ∀ (m i : Nat), i + m = a.length →
    Ev (fun k => wicketref11_texts.l0 k a b (i : Int)) (decide (a.drop i = b.drop i)) := by
  intro m
  induction m with
  | zero =>
    intro i hi
    refine Ev.step (f := fun _ => some true) (fun k => ?_) (Ev.eq (Ev.now _) ?_)
    · simp only [wicketref11_texts.l0]; rw [if_neg (by omega)]
    · rw [List.drop_eq_nil_of_le (by omega), List.drop_eq_nil_of_le (by omega)]; rfl
  | succ m ih =>
    intro i hi
    have hlt : i < a.length := by omega
    have hlb : i < b.length := by omega
    rw [drop_cons a i hlt, drop_cons b i hlb]
    by_cases h : a[i] = b[i]
    · refine Ev.step (fun k => ?_) (Ev.eq (ih (i + 1) (by omega)) ?_)
      · simp only [wicketref11_texts.l0]
        rw [if_pos (by omega), if_pos (by omega), if_pos (by omega), rdOf_get _ _ _ hlt, rdOf_get _ _ _ hlb, if_pos (by rw [h]), w64 (by omega) (by omega)]
        rfl
      · rw [decide_eq_decide, List.cons.injEq]
        exact ⟨fun e => ⟨h, e⟩, fun e => e.2⟩
    · refine Ev.step (f := fun _ => some false) (fun k => ?_) (Ev.eq (Ev.now _) ?_)
      · simp only [wicketref11_texts.l0]
        rw [if_pos (by omega), if_pos (by omega), if_pos (by omega), rdOf_get _ _ _ hlt, rdOf_get _ _ _ hlb, if_neg (fun e => h (by rw [← bs_of a[i], ← bs_of b[i], ← toList_data, ← toList_data, e]))]
      · rw [decide_eq_false (fun e => h (List.cons.inj e).1)]
theorem texts_ev (a b : List ByteArray) (ha : a.length ≤ 140737488355328) : Ev (fun k => wicketref11_texts.f k a b) (decide (a = b)) := by
  unfold wicketref11_texts.f
  by_cases h : a.length = b.length
  · refine Ev.pos (by omega) ?_
    exact texts_loop a b ha h a.length 0 (by omega)
  · refine Ev.neg (by omega) (Ev.eq (Ev.now _) ?_)
    rw [decide_eq_false (fun e => h (by rw [e]))]
theorem joined_tail (l : List ByteArray) (hn : l.length ≤ 140737488355328) : ∀ (m i : Nat) (a : List UInt8), i + m = l.length → 0 < i →
    a.length + (Lib.joinTail [32] ((l.drop i).map (·.data.toList))).length ≤ 140737488355328 →
    Ev (fun k => wicketref11_Joined.l0 k l (bs a) (i : Int)) (bs (a ++ Lib.joinTail [32] ((l.drop i).map (·.data.toList)))) := by
  intro m
  induction m with
  | zero =>
    intro i a hi h0 hl
    refine Ev.step (f := fun _ => some (bs a)) (fun k => ?_) (Ev.eq (Ev.now _) ?_)
    · simp only [wicketref11_Joined.l0]; rw [if_neg (by omega)]
    · rw [List.drop_eq_nil_of_le (by omega)]; simp [Lib.joinTail]
  | succ m ih =>
    intro i a hi h0 hl
    have hlt : i < l.length := by omega
    have e : Lib.joinTail [32] ((l.drop i).map (·.data.toList)) = [32] ++ l[i].data.toList ++ Lib.joinTail [32] ((l.drop (i + 1)).map (·.data.toList)) := by
      rw [drop_cons l i hlt, List.map_cons]
      unfold Lib.joinTail
      rw [List.map_cons, List.flatten_cons]
    rw [e] at hl ⊢
    simp only [List.length_append, List.length_cons, List.length_nil] at hl
    have hsz : l[i].size = l[i].data.toList.length := (data_len _).symm
    refine Ev.step (fun k => ?_) (Ev.eq (ih (i + 1) (a ++ ([32] ++ l[i].data.toList)) (by omega) (by omega) (by simp only [List.length_append, List.length_cons, List.length_nil]; omega)) ?_)
    · simp only [wicketref11_Joined.l0]
      rw [if_pos (by omega), if_pos (by omega), if_pos (by rw [bs_size]; omega), if_pos (by omega), rdOf_get _ _ _ hlt]
      have e2 : (bs a ++ (⟨#[32]⟩ : ByteArray)) = bs (a ++ [32]) := bs_app a [32]
      rw [e2, if_pos (by rw [bs_size]; simp only [List.length_append, List.length_cons, List.length_nil]; omega), w64 (by omega) (by omega)]
      conv => lhs; rw [← bs_of l[i], bs_app, List.append_assoc]
      rfl
    · congr 1; simp
theorem joined_ev (l : List ByteArray) (hn : l.length ≤ 140737488355328) (hj : (joinedL l).length ≤ 140737488355328) : Ev (fun k => wicketref11_Joined.f k l) (bs (joinedL l)) := by
  unfold wicketref11_Joined.f
  cases l with
  | nil =>
    refine Ev.step (f := fun _ => some (⟨#[]⟩ : ByteArray)) (fun k => ?_) (Ev.eq (Ev.now _) rfl)
    simp only [wicketref11_Joined.l0]; rw [if_neg (by simp)]
  | cons x r =>
    have e : joinedL (x :: r) = x.data.toList ++ Lib.joinTail [32] (((x :: r).drop 1).map (·.data.toList)) := by
      unfold joinedL; rw [List.map_cons, Lib.join_cons]; rfl
    rw [e] at hj ⊢
    simp only [List.length_append] at hj
    have hsz : x.size = x.data.toList.length := (data_len _).symm
    refine Ev.step (fun k => ?_) (joined_tail (x :: r) hn r.length 1 x.data.toList (by simp; omega) (by omega) hj)
    simp only [wicketref11_Joined.l0]
    rw [if_pos (by first | (simp; done) | (simp; omega)), if_neg (by omega), if_pos (by omega), show rdOf ByteArray.empty (x :: r) (0 : Int) = x from rfl, if_pos (by rw [show (⟨#[]⟩ : ByteArray).size = 0 from rfl]; omega), w64 (by omega) (by omega), show ((⟨#[]⟩ : ByteArray) ++ x) = bs x.data.toList from by
      have := bs_app [] x.data.toList
      rw [bs_of, List.nil_append] at this
      exact this]
    rfl
end Go.Proofs.YtmimipgmhgalaaaGreatDoor.Pure
