/-
  THE PURE LAW of FormOrder: the order of scopes and how often one stands have no part.
-/
import Derived.Test.YtgfnjdpbahecdaaDoorPAllx17
import Derived.Test.YtgfnjdpbahecdaaDoorPureFormScopes
namespace Go.Proofs.YtgfnjdpbahecdaaDoor.Pure
open Go.RowKit Go.Proofs.YtgfnjdpbahecdaaDoorW.PrintWords Go.Proofs.YtgfnjdpbahecdaaDoor.Plain Go.Proofs.YtgfnjdpbahecdaaDoor.Spec Go.Proofs.YtgfnjdpbahecdaaDoor.PAll
set_option linter.unusedSimpArgs false
set_option linter.unusedVariables false
theorem index_in (l : List ByteArray) (x : ByteArray) (hl : l.length ≤ 8796093021952) : ∀ (m i : Nat), i + m = l.length → x ∈ l.drop i → ∃ r : Int, 0 ≤ r ∧ Ev (fun k => slices_Index_string_string.l0 k l x (l.length : Int) (i : Int)) r := by
  intro m
  induction m with
  | zero =>
    intro i hi hx
    rw [List.drop_eq_nil_of_le (by omega)] at hx
    simp at hx
  | succ m ih =>
    intro i hi hin
    have hlt : i < l.length := by omega
    by_cases hx : x = l[i]
    · refine ⟨i, by omega, Ev.step (f := fun _ => some (i : Int)) (fun k => ?_) (Ev.now _)⟩
      simp only [slices_Index_string_string.l0]; rw [if_pos (by omega), if_pos (by omega), if_pos (by omega), rdOf_get _ _ _ hlt, if_pos (by rw [hx])]
    · rw [drop_cons _ _ hlt, List.mem_cons] at hin
      obtain ⟨r, h0, hr⟩ := ih (i + 1) (by omega) (hin.resolve_left hx)
      refine ⟨r, h0, Ev.step (f := fun k => slices_Index_string_string.l0 k l x (l.length : Int) ((i + 1 : Nat) : Int)) (fun k => ?_) hr⟩
      simp only [slices_Index_string_string.l0]
      rw [if_pos (by omega), if_pos (by omega), if_pos (by omega), rdOf_get _ _ _ hlt, if_neg (fun h => hx (toList_inj h)), w64 (by omega) (by omega)]
      rfl
theorem within_in (l all : List ByteArray) (hl : l.length ≤ 8796093021952) (ha : all.length ≤ 8796093021952) (h : ∀ x ∈ l, x ∈ all) : Ev (fun k => urlform_Within.f k l all) true := by
  have H : ∀ (m i : Nat), i + m = l.length → Ev (fun k => urlform_Within.l0 k all l (l.length : Int) (i : Int)) true := by
    intro m
    induction m with
    | zero =>
      intro i hi
      refine Ev.step (f := fun _ => some true) (fun k => ?_) (Ev.now _)
      simp only [urlform_Within.l0]; rw [if_neg (by omega)]
    | succ m ih =>
      intro i hi
      have hlt : i < l.length := by omega
      obtain ⟨r, h0, hr⟩ := index_in all l[i] ha all.length 0 (by omega) (by rw [List.drop_zero]; exact h _ (List.getElem_mem hlt))
      refine Ev.step (f := fun k => (slices_Contains_string_string.f k all l[i]).bind fun t => if t = true then urlform_Within.l0 k all l (l.length : Int) ((i + 1 : Nat) : Int) else some false) (fun k => ?_) ?_
      · simp only [urlform_Within.l0]
        rw [if_pos (by omega), if_pos (by omega), if_pos (by omega), rdOf_get _ _ _ hlt, w64 (by omega) (by omega)]
        rfl
      · refine Ev.bind (a := true) ?_ (Ev.pos rfl (ih (i + 1) (by omega)))
        unfold slices_Contains_string_string.f slices_Index_string_string.f
        exact Ev.bind hr (Ev.eq (Ev.now _) (decide_eq_true h0))
  unfold urlform_Within.f
  exact H l.length 0 (by omega)
theorem joined_ev (Q : List (List UInt8)) (hQ : Q.length ≤ 33) (hz : ∀ p ∈ Q, p.length ≤ 256) : Ev (fun k => wicketlaw03_joined.f k (Q.map bs)) (bs (joinL Q)) := by
  have hal : (Q.map bs).length = Q.length := List.length_map ..
  have hjl : ∀ P : List (List UInt8), (∀ p ∈ P, p.length ≤ 256) → (joinL P).length ≤ P.length * 257 := by
    intro P
    induction P with
    | nil => intro _; simp [joinL]
    | cons p r ih =>
      intro h
      have h1 := h p (by simp)
      have h2 := ih (fun x hx => h x (by simp [hx]))
      cases r with
      | nil => simp [joinL]; omega
      | cons q r => simp only [joinL, List.length_append, List.length_cons] at h2 ⊢; omega
  have H : ∀ (m i : Nat), i + m = Q.length → Ev (fun k => wicketlaw03_joined.l0 k (Q.map bs) (bs (joinL (Q.take i))) (i : Int)) (bs (joinL Q)) := by
    intro m
    induction m with
    | zero =>
      intro i hi
      refine Ev.step (f := fun _ => some (bs (joinL Q))) (fun k => ?_) (Ev.now _)
      simp only [wicketlaw03_joined.l0]
      rw [if_neg (by omega), List.take_of_length_le (by omega)]
    | succ m ih =>
      intro i hi
      have hlt : i < Q.length := by omega
      have hrd := rd_bs Q i hlt
      have hpz := hz Q[i] (List.getElem_mem hlt)
      have hj := hjl (Q.take i) (fun p hp => hz p (List.mem_of_mem_take hp))
      have hjz : (bs (joinL (Q.take i))).size ≤ 33 * 257 := by
        rw [bs_size]
        have := List.length_take_le i Q
        exact Nat.le_trans hj (Nat.mul_le_mul_right 257 (by omega))
      have key := ih (i + 1) (by omega)
      rw [List.take_succ_eq_append_getElem hlt] at key
      have hbz : (bs Q[i]).size ≤ 256 := by rw [bs_size]; exact hpz
      refine Ev.step (fun k => ?_) key
      simp only [wicketlaw03_joined.l0]
      rw [if_pos (by omega), hrd, w64 (by omega) (by omega)]
      have hsz : (bs (joinL (Q.take i)) ++ (⟨#[32]⟩ : ByteArray)).size = (bs (joinL (Q.take i))).size + 1 := by rw [ByteArray.size_append]; rfl
      by_cases h0 : 0 < i
      · rw [if_pos (by omega), if_pos (by omega), if_pos (by omega), if_pos (by omega)]
        have e : (bs (joinL (Q.take i)) ++ (⟨#[32]⟩ : ByteArray)) ++ bs Q[i] = bs (joinL (Q.take i ++ [Q[i]])) := by
          rw [joinL_snoc _ _ (fun e => by have := congrArg List.length e; rw [List.length_take, List.length_nil] at this; omega)]
          rw [← bs_of ((bs (joinL (Q.take i)) ++ (⟨#[32]⟩ : ByteArray)) ++ bs Q[i])]
          congr 1
          simp [bs]
        rw [e]
        try rfl
      · obtain rfl : i = 0 := by omega
        rw [if_neg (by omega), if_pos (by omega)]
        rw [if_pos (by omega)]
        have e : bs (joinL (Q.take 0)) ++ bs Q[0] = bs (joinL (Q.take 0 ++ [Q[0]])) := by
          rw [← bs_of (bs (joinL (Q.take 0)) ++ bs Q[0])]
          congr 1
          all_goals simp [bs, joinL]
        rw [e]
        try rfl
  unfold wicketlaw03_joined.f
  exact H Q.length 0 (by omega)
theorem scopesL_facts (l : List UInt8) (h : (scopesL l).2 = 0) : Rising (scopesL l).1 ∧ ∀ p ∈ (scopesL l).1, badP p = false ∧ p.length ≤ 256 := by
  unfold scopesL at h ⊢
  by_cases h1 : 256 < l.length
  · rw [if_pos h1] at h; simp at h
  · rw [if_neg h1] at h ⊢
    by_cases h2 : l = []
    · rw [if_pos h2]; exact ⟨List.Pairwise.nil, by simp⟩
    · rw [if_neg h2] at h ⊢
      by_cases h3 : (splitL 32 l).any badP = true
      · rw [if_pos h3] at h; simp at h
      · rw [if_neg h3] at h ⊢
        by_cases h4 : 32 < (setL (splitL 32 l)).length
        · rw [if_pos h4] at h; simp at h
        · rw [if_neg h4]
          refine ⟨setL_rising _, fun p hp => ?_⟩
          rw [setL_mem] at hp
          have hw := widthL_mem _ _ hp
          rw [splitL_width] at hw
          refine ⟨?_, by omega⟩
          rw [Bool.not_eq_true, List.any_eq_false] at h3
          simpa using h3 p hp
theorem scopesL_err (l : List UInt8) (h : (scopesL l).2 ≠ 0) : (scopesL l).1 = [] := by
  unfold scopesL at h ⊢
  by_cases h1 : 256 < l.length
  · rw [if_pos h1]
  · rw [if_neg h1] at h ⊢
    by_cases h2 : l = []
    · rw [if_pos h2]
    · rw [if_neg h2] at h ⊢
      by_cases h3 : (splitL 32 l).any badP = true
      · rw [if_pos h3]
      · rw [if_neg h3] at h ⊢
        by_cases h4 : 32 < (setL (splitL 32 l)).length
        · rw [if_pos h4]
        · rw [if_neg h4] at h; simp at h
/-- The scopes of a list's own texts, joined. -/
theorem scopesL_join (L Q : List (List UInt8)) (hr : Rising L) (hb : ∀ p ∈ L, badP p = false) (h0 : Q ≠ []) (hs : ∀ x, x ∈ Q ↔ x ∈ L) (hl : L.length ≤ 32) :
    (256 < (joinL Q).length → (scopesL (joinL Q)).2 = 1) ∧ ((joinL Q).length ≤ 256 → scopesL (joinL Q) = (L, 0)) := by
  have h32 : ∀ p ∈ Q, 32 ∉ p := by
    intro p hp hm
    have := hb p ((hs p).1 hp)
    unfold badP at this
    rw [Bool.or_eq_false_iff, List.any_eq_false] at this
    have h2 := this.2 32 hm
    rw [letter_space] at h2
    simp at h2
  have hsp := splitL_join Q h0 h32
  refine ⟨fun h => ?_, fun h => ?_⟩
  · unfold scopesL; rw [if_pos h]
  · unfold scopesL
    rw [if_neg (by omega), hsp]
    have hset : setL Q = L := by rw [setL_same hs, setL_of_rising hr]
    have hne : joinL Q ≠ [] := by
      intro e
      rw [e] at hsp
      have : Q = [[]] := hsp.symm
      have hm : ([] : List UInt8) ∈ L := (hs []).1 (by rw [this]; simp)
      have := hb [] hm
      simp [badP] at this
    have hany : ¬ Q.any badP = true := by
      rw [Bool.not_eq_true, List.any_eq_false]
      intro p hp
      rw [hb p ((hs p).1 hp)]
      simp
    rw [if_neg hne, if_neg hany, hset, if_neg (by omega)]
/-- The last part: what is joined is asked for again. -/
theorem fo_end (L Q : List (List UInt8)) (hr : Rising L) (hb : ∀ p ∈ L, badP p = false ∧ p.length ≤ 256) (h0 : Q ≠ []) (hs : ∀ x, x ∈ Q ↔ x ∈ L) (hl : L.length ≤ 32) (hQ : Q.length ≤ 33) :
    ∀ (m i : Nat), i + m = L.length → 1 ≤ i → Ev (fun k => wicketlaw03_FormOrder.l1 k (L.map bs) (Q.map bs) (i : Int)) true := by
  have hal : (L.map bs).length = L.length := List.length_map ..
  have hql : (Q.map bs).length = Q.length := List.length_map ..
  have hzQ : ∀ p ∈ Q, p.length ≤ 256 := fun p hp => (hb p ((hs p).1 hp)).2
  have hj := scopesL_join L Q hr (fun p hp => (hb p hp).1) h0 hs hl
  intro m
  induction m with
  | zero =>
    intro i hi h1
    apply Ev.step
    · intro k
      simp only [wicketlaw03_FormOrder.l1]
      rw [if_neg (by omega)]
    · refine Ev.bind (joined_ev Q hQ hzQ) (Ev.bind (scopes_ev _) ?_)
      rw [bs_data]
      by_cases h256 : 256 < (joinL Q).length
      · refine Ev.pos (by rw [bs_size]; omega) (Ev.bind (Ev.now _) (Ev.eq (Ev.now _) ?_))
        show ((scopesL (joinL Q)).2 == 1) = true
        rw [hj.1 h256]; rfl
      · refine Ev.neg (by rw [bs_size]; omega) (Ev.bind (Ev.now _) ?_)
        rw [hj.2 (by omega)]
        refine Ev.pos rfl (Ev.bind (texts_ev _ (by omega)) (Ev.pos rfl (Ev.bind (within_in _ _ (by show (L.map bs).length ≤ _; omega) (by omega) ?_) (Ev.pos rfl (Ev.bind (within_in _ _ (by omega) (by show (L.map bs).length ≤ _; omega) ?_) (Ev.pos rfl (Ev.bind live_ev (Ev.now _))))))))
        · intro x hx
          obtain ⟨p, hp, rfl⟩ := List.mem_map.1 hx
          exact List.mem_map.2 ⟨p, (hs p).2 hp, rfl⟩
        · intro x hx
          obtain ⟨p, hp, rfl⟩ := List.mem_map.1 hx
          exact List.mem_map.2 ⟨p, (hs p).1 hp, rfl⟩
  | succ m ih =>
    intro i hi h1
    have hlt : i < L.length := by omega
    have hrd := rd_bs L i hlt
    have hrd2 := rd_bs L (i - 1) (by omega)
    have hlt2 : L[i - 1] < L[i] := List.pairwise_iff_getElem.1 hr (i - 1) i _ _ (by omega)
    have hbl : Op.bytesLess (bs L[i - 1]).toList (bs L[i]).toList = true := by rw [bs_toList, bs_toList, Go.Proofs.bytesLess_eq]; exact decide_eq_true hlt2
    have e : wrap64 ((i : Int) - 1) = ((i - 1 : Nat) : Int) := by rw [w64 (by omega) (by omega)]; omega
    refine Ev.step (fun k => ?_) (ih (i + 1) (by omega) (by omega))
    simp only [wicketlaw03_FormOrder.l1]
    rw [e, if_pos (by omega), if_pos (by omega), if_pos (by omega), if_pos (by omega), hrd, hrd2, if_pos hbl, w64 (by omega) (by omega)]
    rfl
theorem fo_mid (L B : List (List UInt8)) (hr : Rising L) (hb : ∀ p ∈ L, badP p = false ∧ p.length ≤ 256) (hs : ∀ x, x ∈ B ↔ x ∈ L) (hl : L.length ≤ 32) (hB : B.length ≤ 32) (hL : L ≠ []) (x : Int) (hx0 : 0 ≤ x) (hx1 : x ≤ 9223372036854775807) :
    Ev (fun k => wicketlaw03_FormOrder.j2 k x (L.map bs) (B.map bs)) true := by
  have hal : (L.map bs).length = L.length := List.length_map ..
  have hbl : (B.map bs).length = B.length := List.length_map ..
  have hpos : 0 < L.length := List.length_pos_iff.2 hL
  have ht0 : 0 ≤ Int.tmod x (L.length : Int) := Int.tmod_nonneg _ hx0
  have ht1 : Int.tmod x (L.length : Int) < (L.length : Int) := Int.tmod_lt_of_pos _ (by omega)
  obtain ⟨j, hj⟩ : ∃ j : Nat, Int.tmod x (L.length : Int) = j := ⟨(Int.tmod x (L.length : Int)).toNat, by omega⟩
  have hjl : j < L.length := by omega
  have hrd := rd_bs L j hjl
  refine Ev.step (fun k => ?_) (fo_end L (B ++ [L[j]]) hr hb (by simp) ?_ hl (by rw [List.length_append, List.length_singleton]; omega) (L.length - 1) 1 (by omega) (by omega))
  · simp only [wicketlaw03_FormOrder.j2]
    rw [if_neg (by omega), hal, hj, if_pos (by omega), if_pos (by omega), if_pos (by omega), hrd, List.map_append]
    rfl
  · intro y
    rw [List.mem_append, hs, List.mem_singleton]
    constructor
    · rintro (h | rfl)
      · exact h
      · exact List.getElem_mem hjl
    · exact Or.inl
theorem fo_back (L : List (List UInt8)) (hr : Rising L) (hb : ∀ p ∈ L, badP p = false ∧ p.length ≤ 256) (hl : L.length ≤ 32) (hL : L ≠ []) (x : Int) (hx0 : -9223372036854775808 ≤ x) (hx1 : x ≤ 9223372036854775807) :
    ∀ (m : Nat), m ≤ L.length → Ev (fun k => wicketlaw03_FormOrder.l0 k x (L.map bs) (((L.drop m).reverse).map bs) ((m : Int) - 1)) true := by
  have hal : (L.map bs).length = L.length := List.length_map ..
  intro m
  induction m with
  | zero =>
    intro _
    have hmid := fun y h0 h1 => fo_mid L L.reverse hr hb (fun z => List.mem_reverse) hl (by rw [List.length_reverse]; exact hl) hL y h0 h1
    rw [List.drop_zero]
    by_cases hn : x < 0
    · have e : wrap64 (-(wrap64 (x + 1))) = -(x + 1) := by rw [w64 (x := x + 1) (by omega) (by omega), w64 (by omega) (by omega)]
      refine Ev.step (fun k => ?_) (hmid (-(x + 1)) (by omega) (by omega))
      simp only [wicketlaw03_FormOrder.l0]
      rw [if_neg (by omega), if_pos hn, e]
    · refine Ev.step (fun k => ?_) (hmid x (by omega) (by omega))
      simp only [wicketlaw03_FormOrder.l0]
      rw [if_neg (by omega), if_neg hn]
  | succ m ih =>
    intro hm
    have hlt : m < L.length := by omega
    have hrd := rd_bs L m hlt
    have hrl : (((L.drop (m + 1)).reverse).map bs).length ≤ 32 := by rw [List.length_map, List.length_reverse, List.length_drop]; omega
    have key := ih (by omega)
    rw [drop_cons L m hlt, List.reverse_cons] at key
    have e : ((m + 1 : Nat) : Int) - 1 = (m : Int) := by omega
    rw [e]
    refine Ev.step (fun k => ?_) key
    simp only [wicketlaw03_FormOrder.l0]
    rw [if_pos (by omega), if_pos (by omega), if_pos (by omega), if_pos (by omega), hrd, w64 (by omega) (by omega), List.map_append]
    rfl
theorem FormOrder (s : ByteArray) (x : Int) (hs : s.size ≤ 140737488351232) (hx : (Lit.int .i64 x).wf = true) : ∃ k, wicketlaw03_FormOrder.f k s x = some true := by
  refine Ev.rounds ?_
  have hx' : -9223372036854775808 ≤ x ∧ x ≤ 9223372036854775807 := by
    simp [Lit.wf, IntKind.min, IntKind.max, IntKind.signed, IntKind.bits] at hx
    omega
  have hl := scopesL_len s.data.toList
  have hml : ((scopesL s.data.toList).1.map bs).length = (scopesL s.data.toList).1.length := List.length_map ..
  unfold wicketlaw03_FormOrder.f
  refine Ev.bind (scopes_ev s) (Ev.bind (Ev.now _) ?_)
  show Ev (fun n => if (scopesL s.data.toList).2 = 0 then (wicketlaw03_FormOrder.j0 n x ((scopesL s.data.toList).1.map bs) ((((scopesL s.data.toList).1.map bs).length : Int) == 0)) else (wicketlaw03_FormOrder.j0 n x ((scopesL s.data.toList).1.map bs) true)) true
  have hlive : (scopesL s.data.toList).1 = [] → Ev (fun n => wicketlaw03_FormOrder.j0 n x ((scopesL s.data.toList).1.map bs) true) true := by
    intro h
    rw [h]
    apply Ev.step
    · intro k
      simp only [wicketlaw03_FormOrder.j0, if_true]
      rw [if_pos (by rfl)]
    · exact Ev.bind live_ev (Ev.now _)
  by_cases h1 : (scopesL s.data.toList).2 = 0
  · refine Ev.pos h1 ?_
    by_cases h2 : (scopesL s.data.toList).1 = []
    · have hb0 : ((((scopesL s.data.toList).1.map bs).length : Int) == 0) = true := by rw [h2]; rfl
      rw [hb0]
      exact hlive h2
    · obtain ⟨f1, f2⟩ := scopesL_facts _ h1
      have hpos : 0 < (scopesL s.data.toList).1.length := List.length_pos_iff.2 h2
      have hb0 : ((((scopesL s.data.toList).1.map bs).length : Int) == 0) = false := beq_eq_false_iff_ne.2 (by omega)
      rw [hb0]
      generalize (scopesL s.data.toList).1 = L at *
      refine Ev.step (fun k => ?_) (Ev.eq (fo_back L f1 f2 hl h2 x hx'.1 hx'.2 L.length (Nat.le_refl _)) rfl)
      simp only [wicketlaw03_FormOrder.j0]
      rw [if_neg (by simp), w64 (by omega) (by omega), hml, List.drop_eq_nil_of_le (Nat.le_refl _)]
      rfl
  · exact Ev.neg h1 (hlive (scopesL_err _ h1))
end Go.Proofs.YtgfnjdpbahecdaaDoor.Pure
