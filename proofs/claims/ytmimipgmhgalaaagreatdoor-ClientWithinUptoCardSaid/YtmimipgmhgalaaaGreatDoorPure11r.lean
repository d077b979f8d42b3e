/-
  What the reference's Scopes computes, on lists (as in the form's own texts).
-/
import Derived.Test.YtmimipgmhgalaaaGreatDoorPure11a
import Derived.Test.YtmimipgmhgalaaaGreatDoorPAllx17
namespace Go.Proofs.YtmimipgmhgalaaaGreatDoor.Pure
open Go.RowKit Go.Proofs.YtmimipgmhgalaaaGreatDoorW.PrintWords Go.Proofs.YtmimipgmhgalaaaGreatDoor.Plain Go.Proofs.YtmimipgmhgalaaaGreatDoor.Spec Go.Proofs.YtmimipgmhgalaaaGreatDoor.PAll
set_option linter.unusedSimpArgs false
set_option linter.unusedVariables false
theorem letter_eq (c : UInt8) : wicketref03_Letter.f (c.toNat : Int) = some (letterB c) := by
  unfold wicketref03_Letter.f letterB
  by_cases h1 : (c.toNat : Int) = 33
  · rw [if_pos h1, decide_eq_true (by omega)]
  · rw [if_neg h1]
    by_cases h2 : (c.toNat : Int) ≥ 35
    · rw [if_pos h2]
      by_cases h3 : (c.toNat : Int) ≤ 91
      · rw [if_pos h3, decide_eq_true (by omega)]
      · rw [if_neg h3]
        by_cases h4 : (c.toNat : Int) ≥ 93
        · rw [if_pos h4]
          congr 1
          rw [decide_eq_decide]
          omega
        · rw [if_neg h4, decide_eq_false (by omega)]
    · rw [if_neg h2, if_neg (by omega), decide_eq_false (by omega)]
theorem put_done (L : List (List UInt8)) (s : List UInt8) (hL : L.length ≤ 20000) : ∀ (m i : Nat) (out : List (List UInt8)), i + m = L.length → s ∉ L.drop i → out.length ≤ 30000 + i →
    Ev (fun k => wicketref03_put.l0 k (L.map bs) (bs s) (out.map bs) true (i : Int)) ((out ++ L.drop i).map bs) := by
  have hal : (L.map bs).length = L.length := List.length_map ..
  intro m
  induction m with
  | zero =>
    intro i out hi hs ho
    refine Ev.step (f := fun _ => some (out.map bs)) (fun k => ?_) (Ev.eq (Ev.now _) ?_)
    · simp only [wicketref03_put.l0]
      rw [if_neg (by omega), if_pos trivial]
    · rw [List.drop_eq_nil_of_le (by omega), List.append_nil]
  | succ m ih =>
    intro i out hi hs ho
    have hlt : i < L.length := by omega
    have hol : (out.map bs).length = out.length := List.length_map ..
    have hrd := rd_bs L i hlt
    rw [drop_cons L i hlt] at hs ⊢
    simp only [List.mem_cons, not_or] at hs
    have key := ih (i + 1) (out ++ [L[i]]) (by omega) hs.2 (by rw [List.length_append, List.length_singleton]; omega)
    rw [List.append_assoc, List.singleton_append] at key
    generalize L[i] = x at *
    have hne : ¬ (bs x).toList = (bs s).toList := by rw [bs_toList, bs_toList]; exact fun e => hs.1 e.symm
    refine Ev.step (fun k => ?_) key
    simp only [wicketref03_put.l0]
    rw [if_pos (by omega), if_pos (by omega), hrd, if_neg hne, if_pos trivial, if_pos (by omega), w64 (by omega) (by omega), List.map_append]
    rfl
theorem put_find (L : List (List UInt8)) (s : List UInt8) (hL : L.length ≤ 20000) (hr : Rising L) : ∀ (m i : Nat), i + m = L.length →
    Ev (fun k => wicketref03_put.l0 k (L.map bs) (bs s) ((L.take i).map bs) false (i : Int)) ((L.take i ++ putL (L.drop i) s).map bs) := by
  have hal : (L.map bs).length = L.length := List.length_map ..
  intro m
  induction m with
  | zero =>
    intro i hi
    have hol : ((L.take i).map bs).length = i := by rw [List.length_map, List.length_take]; omega
    refine Ev.step (f := fun _ => some ((L.take i).map bs ++ [bs s])) (fun k => ?_) (Ev.eq (Ev.now _) ?_)
    · simp only [wicketref03_put.l0]
      rw [if_neg (by omega), if_neg (by simp), if_pos (by omega)]
    · rw [List.drop_eq_nil_of_le (by omega), List.map_append]; rfl
  | succ m ih =>
    intro i hi
    have hlt : i < L.length := by omega
    have hol : ((L.take i).map bs).length = i := by rw [List.length_map, List.length_take]; omega
    have hrd := rd_bs L i hlt
    have htk := List.take_succ_eq_append_getElem hlt
    have hdr := drop_cons L i hlt
    have hri : Rising (L.drop i) := List.Pairwise.sublist (List.drop_sublist i L) hr
    rw [hdr] at hri
    have hr1 := List.pairwise_cons.1 hri
    have key := ih (i + 1) (by omega)
    have hdone := put_done L s hL m (i + 1) (L.take i ++ [s, L[i]]) (by omega)
    have hwhole : L.take i ++ L.drop i = L := List.take_append_drop i L
    rw [hdr] at hwhole ⊢
    rw [htk] at key
    generalize L[i] = x at *
    unfold putL
    by_cases he : x = s
    · rw [if_pos he, hwhole]
      refine Ev.step (f := fun _ => some (L.map bs)) (fun k => ?_) (Ev.now _)
      simp only [wicketref03_put.l0]
      rw [if_pos (by omega), if_pos (by omega), hrd, if_pos (by rw [he])]
    · rw [if_neg he]
      have hne : ¬ (bs x).toList = (bs s).toList := by rw [bs_toList, bs_toList]; exact he
      by_cases hlt2 : s < x
      · rw [if_pos hlt2]
        have hb : Op.bytesLess (bs s).toList (bs x).toList = true := by rw [bs_toList, bs_toList, Go.Proofs.bytesLess_eq]; exact decide_eq_true hlt2
        have hd := hdone (fun hm => List.lt_irrefl s (List.lt_trans hlt2 (hr1.1 s hm))) (by rw [List.length_append, List.length_take]; simp; omega)
        have e : L.take i ++ [s, x] ++ L.drop (i + 1) = L.take i ++ s :: x :: L.drop (i + 1) := by simp
        rw [e] at hd
        refine Ev.step (fun k => ?_) hd
        simp only [wicketref03_put.l0]
        rw [if_pos (by omega), if_pos (by omega), hrd, if_neg hne, if_neg (by simp), if_pos hb, if_pos (by omega), Option.bind_some, if_pos (by rw [List.length_append, List.length_singleton]; omega), w64 (by omega) (by omega)]
        simp only [List.map_append, List.append_assoc]
        rfl
      · rw [if_neg hlt2]
        have hb : ¬ Op.bytesLess (bs s).toList (bs x).toList = true := by rw [bs_toList, bs_toList, Go.Proofs.bytesLess_eq]; simpa using hlt2
        rw [List.append_assoc, List.singleton_append] at key
        refine Ev.step (fun k => ?_) key
        simp only [wicketref03_put.l0]
        rw [if_pos (by omega), if_pos (by omega), hrd, if_neg hne, if_neg (by simp), if_neg hb, if_pos (by omega), w64 (by omega) (by omega), List.map_append]
        rfl
theorem put_ev (L : List (List UInt8)) (s : List UInt8) (hL : L.length ≤ 20000) (hr : Rising L) : Ev (fun k => wicketref03_put.f k (L.map bs) (bs s)) ((putL L s).map bs) := by
  unfold wicketref03_put.f
  exact put_find L s hL hr L.length 0 (by omega)
theorem splitL_has (c : UInt8) : ∀ (l : List UInt8) (x : UInt8), x ∈ l → x ≠ c → ∃ p ∈ splitL c l, x ∈ p
  | y :: r, x, h, hx => by
    by_cases hy : y = c
    · subst hy
      rw [splitL_same]
      rcases List.mem_cons.1 h with rfl | h
      · exact absurd rfl hx
      · obtain ⟨p, hp, hm⟩ := splitL_has y r x h hx
        exact ⟨p, List.mem_cons_of_mem _ hp, hm⟩
    · obtain ⟨q, ps, hq⟩ : ∃ p ps, splitL c r = p :: ps := by
        cases hr : splitL c r with
        | nil => exact absurd hr (splitL_ne c r)
        | cons p ps => exact ⟨p, ps, rfl⟩
      rw [splitL_other c y r q ps hy hq]
      rcases List.mem_cons.1 h with rfl | h
      · exact ⟨_, List.mem_cons_self, List.mem_cons_self⟩
      · obtain ⟨p, hp, hm⟩ := splitL_has c r x h hx
        rw [hq] at hp
        rcases List.mem_cons.1 hp with rfl | hp
        · exact ⟨_, List.mem_cons_self, List.mem_cons_of_mem _ hm⟩
        · exact ⟨p, List.mem_cons_of_mem _ hp, hm⟩
def restS (l : List UInt8) (j : Nat) : List (List UInt8) := if j ≤ l.length then splitL 32 (l.drop j) else []
def finS (ps L : List (List UInt8)) : List (List UInt8) × Int := if ps.any badP = true then ([], 33) else if 32 < (ps.foldl putL L).length then ([], 32) else (ps.foldl putL L, 0)
theorem extractS (s : ByteArray) (a b : Nat) (h : b ≤ s.size) : (s.extract a b).data.toList = (s.data.toList.drop a).take (b - a) := by
  rw [ByteArray.data_extract, Array.toList_extract]
theorem btS (s : ByteArray) (i : Nat) (h : i < s.size) : bt s (i : Int) = (s[i].toNat : Int) := by
  unfold bt
  rw [dif_pos (by simpa using h)]
  rfl
theorem u8S (c : UInt8) (n : Nat) (h : c.toNat = n) : c = UInt8.ofNat n := by rw [← h, UInt8.ofNat_toNat]
theorem refscopes_loop (s : ByteArray) (hs : s.size ≤ 256) : ∀ (m a i : Nat) (L : List (List UInt8)), i + m = s.size + 1 → a ≤ i → (m = 0 → a = i) → L.length ≤ a → Rising L → (∀ x ∈ (s.data.toList.drop a).take (i - a), letterB x = true) →
    Ev (fun k => wicketref03_Scopes.l0 k s (L.map bs) (a : Int) (i : Int)) (resS (finS (restS s.data.toList a) L)) := by
  intro m
  induction m with
  | zero =>
    intro a i L hi hai h0 hL hr _
    have := h0 rfl
    subst this
    have hal : (L.map bs).length = L.length := List.length_map ..
    have hfin : restS s.data.toList a = [] := by unfold restS; rw [if_neg (by rw [data_len]; omega)]
    rw [hfin]
    unfold finS
    rw [List.any_nil, if_neg (by simp), List.foldl_nil]
    by_cases h32 : 32 < L.length
    · rw [if_pos h32]
      refine Ev.step (f := fun _ => some ([], 32)) (fun k => ?_) (Ev.eq (Ev.now _) rfl)
      simp only [wicketref03_Scopes.l0]
      rw [if_neg (by omega), if_pos (by omega)]
    · rw [if_neg h32]
      refine Ev.step (f := fun _ => some (L.map bs, 0)) (fun k => ?_) (Ev.eq (Ev.now _) rfl)
      simp only [wicketref03_Scopes.l0]
      rw [if_neg (by omega), if_neg (by omega)]
  | succ m ih =>
    intro a i L hi hai _ hL hr hlet
    by_cases hgo : ∃ h : i < s.size, s[i] ≠ 32
    · obtain ⟨hlt, hne⟩ := hgo
      have hbt := btS s i hlt
      have hne' : ((s[i].toNat : Int) != 32) = true := by
        rw [bne_iff_ne]; exact fun e => hne (u8S _ 32 (by omega))
      have hlen : i - a < (s.data.toList.drop a).length := by rw [List.length_drop, data_len]; omega
      have hget : (s.data.toList.drop a)[i - a] = s[i] := by
        rw [List.getElem_drop]
        have : ∀ (j : Nat) (h : j < s.data.toList.length), j = i → s.data.toList[j] = s[i] := by rintro j h rfl; rfl
        exact this _ _ (by omega)
      have hle := letter_eq s[i]
      refine Ev.step (f := fun k => wicketref03_Scopes.j1 k s (L.map bs) (a : Int) (i : Int) true) (fun k => ?_) ?_
      · simp only [wicketref03_Scopes.l0]
        rw [if_pos (by omega), if_pos (by omega), if_pos (by omega), hbt, hne']
      · cases hc : letterB s[i] with
        | false =>
          rw [hc] at hle
          have hbad : (restS s.data.toList a).any badP = true := by
            unfold restS
            rw [if_pos (by rw [data_len]; omega)]
            obtain ⟨p, hp, hm⟩ := splitL_has 32 (s.data.toList.drop a) s[i] (by rw [← hget]; exact List.getElem_mem hlen) hne
            rw [List.any_eq_true]
            refine ⟨p, hp, ?_⟩
            unfold badP
            rw [Bool.or_eq_true, List.any_eq_true]
            exact .inr ⟨_, hm, by rw [hc]; rfl⟩
          unfold finS
          rw [if_pos hbad]
          refine Ev.step (f := fun _ => some ([], 33)) (fun k => ?_) (Ev.eq (Ev.now _) rfl)
          simp only [wicketref03_Scopes.j1, if_true]
          rw [if_pos (by omega), if_pos (by omega), hbt, hle, Option.bind_some, if_neg (by simp)]
        | true =>
          rw [hc] at hle
          refine Ev.step (fun k => ?_) (ih a (i + 1) L (by omega) (by omega) (by omega) hL hr ?_)
          · simp only [wicketref03_Scopes.j1, if_true]
            rw [if_pos (by omega), if_pos (by omega), hbt, hle, Option.bind_some, if_pos rfl, w64 (by omega) (by omega)]
            rfl
          · rw [show i + 1 - a = (i - a) + 1 by omega, List.take_succ_eq_append_getElem hlen, hget]
            intro x hx
            rcases List.mem_append.1 hx with hx | hx
            · exact hlet x hx
            · rw [List.mem_singleton] at hx; rw [hx]; exact hc
    · have h32 : 32 ∉ (s.data.toList.drop a).take (i - a) := fun hm => by have := hlet 32 hm; rw [letter_space] at this; cases this
      have hrest : restS s.data.toList a = (s.data.toList.drop a).take (i - a) :: restS s.data.toList (i + 1) := by
        unfold restS
        rw [data_len, if_pos (by omega)]
        by_cases hlt : i < s.size
        · have h32i : s[i] = 32 := Classical.byContradiction fun e => hgo ⟨hlt, e⟩
          rw [if_pos (by omega)]
          have hcut : s.data.toList.drop a = (s.data.toList.drop a).take (i - a) ++ 32 :: s.data.toList.drop (i + 1) := by
            conv => lhs; rw [← List.take_append_drop (i - a) (s.data.toList.drop a)]
            congr 1
            rw [List.drop_drop, show a + (i - a) = i by omega, drop_at s i hlt, h32i]
          conv => lhs; rw [hcut]
          rw [splitL_hit 32 _ _ h32]
        · rw [if_neg (by omega)]
          have hz : (s.data.toList.drop a).take (i - a) = s.data.toList.drop a := List.take_of_length_le (by rw [List.length_drop, data_len]; omega)
          rw [hz] at h32 ⊢
          exact splitL_whole 32 _ h32
      have hplen : ((s.data.toList.drop a).take (i - a)).length = i - a := by rw [List.length_take, List.length_drop, data_len]; omega
      rw [hrest]
      have hl0 : ∀ r, Ev (fun k => wicketref03_Scopes.j1 k s (L.map bs) (a : Int) (i : Int) false) r → Ev (fun k => wicketref03_Scopes.l0 k s (L.map bs) (a : Int) (i : Int)) r := by
        refine fun r h => Ev.step (fun k => ?_) h
        simp only [wicketref03_Scopes.l0]
        rw [if_pos (by omega)]
        by_cases hlt : i < s.size
        · have h32i : s[i] = 32 := Classical.byContradiction fun e => hgo ⟨hlt, e⟩
          have hbt := btS s i hlt
          rw [if_pos (by omega), if_pos (by omega), hbt, h32i]
          rfl
        · rw [if_neg (by omega)]
      refine hl0 _ ?_
      have hx : bs ((s.data.toList.drop a).take (i - a)) = s.extract a i := by rw [← extractS s a i (by omega), bs_of]
      have hw : wrap64 ((i : Int) + 1) = ((i + 1 : Nat) : Int) := by rw [w64 (by omega) (by omega)]; rfl
      generalize hp : (s.data.toList.drop a).take (i - a) = p at *
      unfold finS
      rw [List.any_cons]
      by_cases h1 : p = []
      · have hbp : badP p = true := by rw [h1]; rfl
        rw [hbp, Bool.true_or, if_pos rfl]
        rw [h1] at hplen
        simp only [List.length_nil] at hplen
        refine Ev.step (f := fun _ => some ([], 33)) (fun k => ?_) (Ev.eq (Ev.now _) rfl)
        simp only [wicketref03_Scopes.j1]
        rw [if_neg (by simp), if_pos (by omega)]
      · have hbp : badP p = false := by
          unfold badP
          rw [Bool.or_eq_false_iff]
          refine ⟨by cases p <;> simp_all, ?_⟩
          rw [List.any_eq_false]
          intro x hxm
          rw [hlet x hxm]
          simp
        rw [hbp, Bool.false_or, List.foldl_cons]
        have hpos : 0 < p.length := List.length_pos_iff.2 h1
        have hpl := putL_len p L
        refine Ev.step (f := fun k => (wicketref03_put.f k (L.map bs) (bs p)).bind fun t243 => (wicketref03_Scopes.l0 k s t243 ((i + 1 : Nat) : Int) ((i + 1 : Nat) : Int))) (fun k => ?_) ?_
        · simp only [wicketref03_Scopes.j1]
          rw [if_neg (by simp), if_neg (by omega), if_pos (by omega), if_pos (by omega), if_pos (by omega), hw, Int.toNat_natCast, Int.toNat_natCast, hx]
        · refine Ev.bind (put_ev L p (by omega) hr) ?_
          exact ih (i + 1) (i + 1) (putL L p) (by omega) (by omega) (fun _ => rfl) (by omega) (putL_rising p L hr) (by simp)
theorem refscopes_ev (s : ByteArray) : Ev (fun k => wicketref03_Scopes.f k s) (resS (scopesL s.data.toList)) := by
  unfold wicketref03_Scopes.f scopesL
  rw [data_len]
  by_cases h : 256 < s.size
  · rw [if_pos h]
    exact Ev.pos (by omega) (Ev.now _)
  · rw [if_neg h]
    refine Ev.neg (by omega) ?_
    by_cases h1 : s.data.toList = []
    · rw [if_pos h1]
      exact Ev.pos (by rw [toList_data]; exact h1) (Ev.now _)
    · rw [if_neg h1]
      refine Ev.neg (by rw [toList_data]; exact h1) ?_
      exact refscopes_loop s (by omega) (s.size + 1) 0 0 [] (by omega) (by omega) (by omega) (by simp) List.Pairwise.nil (by simp)
theorem scopesL_len (l : List UInt8) : (scopesL l).1.length ≤ 32 := by
  unfold scopesL
  split
  · simp
  · split
    · simp
    · split
      · simp
      · split
        · simp
        · simp; omega
end Go.Proofs.YtmimipgmhgalaaaGreatDoor.Pure
