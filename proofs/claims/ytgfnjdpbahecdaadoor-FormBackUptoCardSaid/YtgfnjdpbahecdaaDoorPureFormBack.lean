/-
  THE PURE LAWS of FormBack and FormAgain: what was escaped, and what was printed, is read back.
-/
import Derived.Test.YtgfnjdpbahecdaaDoorPAllx20
import Derived.Test.YtgfnjdpbahecdaaDoorPureFormJoins
namespace Go.Proofs.YtgfnjdpbahecdaaDoor.Pure
open Go.RowKit Go.Proofs.YtgfnjdpbahecdaaDoorW.PrintWords Go.Proofs.YtgfnjdpbahecdaaDoor.Plain Go.Proofs.YtgfnjdpbahecdaaDoor.Spec Go.Proofs.YtgfnjdpbahecdaaDoor.PAll
set_option linter.unusedSimpArgs false
set_option linter.unusedVariables false
set_option maxRecDepth 100000 in
theorem esc_all : ∀ n : Fin 256, (hexI (hexD (n.val / 16)) = n.val / 16 ∧ hexI (hexD (n.val % 16)) = n.val % 16) ∧ (∀ b ∈ escB (UInt8.ofNat n.val), b ≠ 38 ∧ b ≠ 61) ∧ (plainB (UInt8.ofNat n.val) = true → 33 ≤ n.val ∧ n.val ≤ 126 ∧ n.val ≠ 43 ∧ n.val ≠ 37) := by decide +kernel
theorem unesc_esc : ∀ (l : List UInt8) (i : Nat) (acc : List UInt8), unescL (escL l) i acc = (acc ++ l, 0, 0)
  | [], i, acc => by simp [escL, unescL]
  | c :: l, i, acc => by
    have e : escL (c :: l) = escB c ++ escL l := by simp [escL]
    obtain ⟨⟨a1, a2⟩, _, a4⟩ := esc_all ⟨c.toNat, c.toNat_lt⟩
    simp only at a1 a2 a4
    rw [UInt8.ofNat_toNat] at a4
    rw [e]
    unfold escB
    by_cases h1 : c = 32
    · rw [if_pos h1]
      show unescL (43 :: escL l) i acc = _
      rw [unescL_plus _ _ _ _ rfl, unesc_esc l, h1]
      simp
    · rw [if_neg h1]
      by_cases h2 : plainB c = true
      · rw [if_pos h2]
        obtain ⟨b1, b2, b3, b4⟩ := a4 h2
        show unescL (c :: escL l) i acc = _
        rw [unescL_keep _ _ _ _ (by omega) (by rintro rfl; exact b3 rfl) (by rintro rfl; exact b4 rfl), unesc_esc l]
        simp
      · rw [if_neg h2]
        have hc := c.toNat_lt
        show unescL (37 :: hexD (c.toNat / 16) :: hexD (c.toNat % 16) :: escL l) i acc = _
        rw [unescL_hex 37 (hexD (c.toNat / 16)) (hexD (c.toNat % 16)) _ _ _ rfl (by rw [a1, a2]; omega), unesc_esc l, a1, a2]
        have e2 : (16 * ((c.toNat / 16 : Nat) : Int) + ((c.toNat % 16 : Nat) : Int)).toNat = c.toNat := by omega
        rw [show (16 * ((c.toNat : Int) / 16) + (c.toNat : Int) % 16).toNat = c.toNat by omega, UInt8.ofNat_toNat]
        simp
theorem esc_clean (l : List UInt8) : 38 ∉ escL l ∧ 61 ∉ escL l := by
  constructor
  all_goals
    intro h
    unfold escL at h
    obtain ⟨c, _, hc⟩ := List.mem_flatMap.1 h
    obtain ⟨_, a, _⟩ := esc_all ⟨c.toNat, c.toNat_lt⟩
    simp only [UInt8.ofNat_toNat] at a
    first
      | exact (a _ hc).1 rfl
      | exact (a _ hc).2 rfl
def un34 (p : S34) : ByteArray × ByteArray := (p.f0, p.f1)
theorem pairB_read (i : Nat) (p : S34) : pairP i (pairB p) = (un34 p, 0, 0) := by
  unfold pairP pairB
  rw [cutL_hit 61 _ _ (esc_clean _).2]
  simp only [unesc_esc, List.nil_append, if_true, bs_of]
  rfl
theorem pairB_clean (p : S34) : 38 ∉ pairB p := by
  unfold pairB
  rw [List.mem_append, List.mem_cons]
  rintro (h | h | h)
  · exact (esc_clean _).1 h
  · cases h
  · exact (esc_clean _).1 h
theorem pairB_ne (p : S34) : pairB p ≠ [] := by simp [pairB]
theorem split_print : ∀ (r : List S34) (p : S34), splitL 38 (printL (p :: r)) = pairB p :: r.map pairB
  | [], p => by simp only [printL, List.flatMap_nil, List.append_nil, List.map_nil]; exact splitL_whole 38 _ (pairB_clean p)
  | q :: r, p => by
    have ih := split_print r q
    simp only [printL, List.flatMap_cons, List.cons_append] at ih ⊢
    rw [splitL_hit 38 _ _ (pairB_clean p), ih]
    rfl
theorem parse_pairs : ∀ (l : List S34) (i : Nat) (acc : List (ByteArray × ByteArray)), acc.length ≤ 64 →
    (acc.length + l.length ≤ 64 → parseL (l.map pairB) i acc = (acc ++ l.map un34, 0, 0)) ∧ (64 < acc.length + l.length → (parseL (l.map pairB) i acc).2.1 = 32 ∧ (parseL (l.map pairB) i acc).1 = [])
  | [], i, acc, h => ⟨fun _ => by simp [parseL], fun hc => by simp at hc; omega⟩
  | p :: r, i, acc, h => by
    rw [List.map_cons, parseL_cons, if_neg (pairB_ne p), pairB_read]
    by_cases h1 : acc.length = 64
    · rw [if_pos h1]
      exact ⟨fun hc => by simp at hc; omega, fun _ => ⟨rfl, rfl⟩⟩
    · rw [if_neg h1, if_pos rfl]
      have ih := parse_pairs r (i + (pairB p).length + 1) (acc ++ [un34 p]) (by rw [List.length_append, List.length_singleton]; omega)
      rw [List.length_append, List.length_singleton] at ih
      refine ⟨fun hc => ?_, fun hc => ?_⟩
      · rw [ih.1 (by simp at hc; omega), List.append_assoc]; rfl
      · exact ih.2 (by simp at hc; omega)
theorem parse_print (l : List S34) : (16384 < (printL l).length → parse (printL l) = ([], 1, 0)) ∧ ((printL l).length ≤ 16384 →
    (64 < l.length → (parse (printL l)).2.1 = 32 ∧ (parse (printL l)).1 = []) ∧ (l.length ≤ 64 → parse (printL l) = (l.map un34, 0, 0))) := by
  refine ⟨fun h => ?_, fun h => ?_⟩
  · unfold parse; rw [if_pos h]
  · have e : parse (printL l) = parseL (l.map pairB) 0 [] := by
      unfold parse
      rw [if_neg (by omega)]
      cases l with
      | nil => rfl
      | cons p r => rw [split_print]; rfl
    rw [e]
    have := parse_pairs l 0 [] (by simp)
    simp only [List.length_nil, Nat.zero_add, List.nil_append] at this
    exact ⟨this.2, this.1⟩
theorem back34 : ∀ l : List S34, (l.map un34).map mk34 = l
  | [] => rfl
  | p :: r => by rw [List.map_cons, List.map_cons, back34 r]; rfl
theorem print_some (l : List S34) (h : 3 * sizeL l ≤ 140737488355328) : urlform_Print.f l = some (bs (printL l)) := by
  unfold urlform_Print.f
  rw [if_pos h]
  rfl
theorem sizeL_sum (l : List S34) : sizeL l ≤ (l.map fun y => ((y.f0.size + 1) + (y.f1.size + 1) + 1)).sum ∧ l.length ≤ (l.map fun y => ((y.f0.size + 1) + (y.f1.size + 1) + 1)).sum := by
  induction l with
  | nil => simp [sizeL]
  | cons p r ih =>
    unfold sizeL at ih ⊢
    simp only [List.map_cons, List.sum_cons, List.length_cons]
    omega
theorem FormBack (s : ByteArray) (l : List S34) (ok0 : s.size ≤ 140737488351232) (ok1 : l.length * 32 ≤ 140737488351232 ∧ ∀ y, y ∈ l → (y.f0.size ≤ 140737488351232) ∧ (y.f1.size ≤ 140737488351232))
    (hb : (s.size + 1) + ((l.map fun y => ((y.f0.size + 1) + (y.f1.size + 1) + 1)).sum + 1) ≤ 1048576) : ∃ k, wicketlaw03_FormBack.f k s l = some true := by
  refine Ev.rounds ?_
  have hss := sizeL_sum l
  have h1 : urlform_Escape.f s = some (bs (escL s.data.toList)) := by unfold urlform_Escape.f; rw [if_pos (by omega)]; rfl
  have hel := escL_len s.data.toList
  rw [data_len] at hel
  have h2 := unesc_eq (bs (escL s.data.toList)) (by rw [bs_size]; omega)
  rw [bs_data, unesc_esc] at h2
  have h3 := print_some l (by omega)
  have hpl := printL_len l
  have hp := parse_print l
  unfold wicketlaw03_FormBack.f
  rw [h1]
  simp only [Option.bind_some]
  rw [h2]
  simp only [Option.bind_some, List.nil_append]
  refine Ev.bind (Ev.now _) (Ev.pos rfl (Ev.pos (by rw [bs_of]) (Ev.bind live_ev ?_)))
  apply Ev.step
  · intro k
    simp only [wicketlaw03_FormBack.j0]
    rw [if_neg (by simp), h3, Option.bind_some]
  · have hpe := parse_ev (bs (printL l)) (by rw [bs_size]; omega)
    rw [bs_data] at hpe
    refine Ev.bind hpe ?_
    by_cases h5 : 16384 < (printL l).length
    · rw [hp.1 h5]
      exact Ev.pos (by rw [bs_size]; omega) (Ev.bind (Ev.now _) (Ev.pos rfl (Ev.pos rfl (Ev.now _))))
    · refine Ev.neg (by rw [bs_size]; omega) ?_
      by_cases h6 : 64 < l.length
      · obtain ⟨g1, g2⟩ := (hp.2 (by omega)).1 h6
        refine Ev.pos (by omega) (Ev.bind (Ev.now _) (Ev.pos g1 (Ev.eq (Ev.now _) ?_)))
        show ((((parse (printL l)).1.map mk34).length : Int) == 0) = true
        rw [g2]
        rfl
      · rw [(hp.2 (by omega)).2 (by omega)]
        refine Ev.neg (by omega) (Ev.bind (Ev.now _) (Ev.pos rfl ?_))
        show Ev (fun k => (wicketlaw03_pairs.f k ((l.map un34).map mk34) l).bind fun t407 => some t407) true
        rw [back34]
        exact Ev.bind (pairs_evJ l (by omega)) (Ev.now _)
theorem parseL_sizes (W : Nat) : ∀ (ps : List (List UInt8)) (i : Nat) (acc : List (ByteArray × ByteArray)), (∀ p ∈ ps, p.length ≤ W) → (∀ x ∈ acc, x.1.size ≤ W ∧ x.2.size ≤ W) → ∀ x ∈ (parseL ps i acc).1, x.1.size ≤ W ∧ x.2.size ≤ W
  | [], i, acc, _, ha => ha
  | p :: r, i, acc, hp, ha => by
    rw [parseL_cons]
    have hr : ∀ q ∈ r, q.length ≤ W := fun q hq => hp q (List.mem_cons_of_mem _ hq)
    by_cases h1 : p = []
    · rw [if_pos h1]; exact parseL_sizes W r _ _ hr ha
    · rw [if_neg h1]
      by_cases h2 : acc.length = 64
      · rw [if_pos h2]; intro x hx; cases hx
      · rw [if_neg h2]
        by_cases h3 : (pairP i p).2.1 = 0
        · rw [if_pos h3]
          refine parseL_sizes W r _ _ hr fun x hx => ?_
          rcases List.mem_append.1 hx with hx | hx
          · exact ha x hx
          · rw [List.mem_singleton] at hx
            subst hx
            have hc := cutL_len 61 p
            have hpw := hp p List.mem_cons_self
            have u1 := unescL_place (cutL 61 p).1.length (cutL 61 p).1 (Nat.le_refl _) 0 []
            have u2 := unescL_place (cutL 61 p).2.1.length (cutL 61 p).2.1 (Nat.le_refl _) 0 []
            unfold pairP
            simp only [List.length_nil] at u1 u2
            split
            · split
              · simp only [bs_size]; omega
              · exact ⟨Nat.zero_le _, Nat.zero_le _⟩
            · exact ⟨Nat.zero_le _, Nat.zero_le _⟩
        · rw [if_neg h3]; intro x hx; cases hx
theorem sizeL_le (W : Nat) (l : List S34) (h : ∀ x ∈ l, x.f0.size ≤ W ∧ x.f1.size ≤ W) : sizeL l ≤ l.length * (2 * W + 1) := by
  induction l with
  | nil => simp [sizeL]
  | cons p r ih =>
    have h1 := h p List.mem_cons_self
    have h2 := ih fun x hx => h x (List.mem_cons_of_mem _ hx)
    unfold sizeL at h2 ⊢
    simp only [List.map_cons, List.sum_cons, List.length_cons, Nat.add_mul, Nat.one_mul]
    omega
theorem FormAgain (s : ByteArray) (hs : s.size ≤ 140737488351232) : ∃ k, wicketlaw03_FormAgain.f k s = some true := by
  refine Ev.rounds ?_
  have hl := parse_len s.data.toList
  have hml : ((parse s.data.toList).1.map mk34).length = (parse s.data.toList).1.length := List.length_map ..
  unfold wicketlaw03_FormAgain.f
  refine Ev.bind (parse_ev s (by omega)) (Ev.bind (Ev.now _) ?_)
  by_cases h1 : (parse s.data.toList).2.1 = 0
  · refine Ev.pos h1 ?_
    have hsz : ∀ x ∈ (parse s.data.toList).1.map mk34, x.f0.size ≤ 16384 ∧ x.f1.size ≤ 16384 := by
      intro x hx
      obtain ⟨y, hy, rfl⟩ := List.mem_map.1 hx
      have h16 : ¬ 16384 < s.data.toList.length := fun h => by unfold parse at h1; rw [if_pos h] at h1; simp at h1
      have e : parse s.data.toList = parseL (splitL 38 s.data.toList) 0 [] := by unfold parse; rw [if_neg h16]
      rw [e] at hy
      refine parseL_sizes 16384 _ _ _ (fun p hp => ?_) (by simp) y hy
      have := widthL_mem _ _ hp
      rw [splitL_width] at this
      omega
    have hle := sizeL_le 16384 _ hsz
    show Ev (fun n => (urlform_Print.f ((parse s.data.toList).1.map mk34)).bind _) true
    have hmul : ((parse s.data.toList).1.map mk34).length * (2 * 16384 + 1) ≤ 64 * (2 * 16384 + 1) := Nat.mul_le_mul_right _ (by omega)
    have h3 := print_some ((parse s.data.toList).1.map mk34) (by omega)
    have hpl := printL_len ((parse s.data.toList).1.map mk34)
    have hp := parse_print ((parse s.data.toList).1.map mk34)
    show Ev (fun n => (urlform_Print.f ((parse s.data.toList).1.map mk34)).bind fun t415 => ((urlform_Parse.f n t415).bind fun bt416 => (if (t415.size : Int) > 16384 then ((wicketlaw03_num.f bt416.2.1).bind fun t421 => (some (t421 == 1))) else ((wicketlaw03_num.f bt416.2.1).bind fun t422 => (if t422 = 0 then ((wicketlaw03_pairs.f n ((parse s.data.toList).1.map mk34) bt416.1).bind fun t423 => (if t423 = true then ((urlform_Print.f bt416.1).bind fun t424 => (if t424.toList = t415.toList then ((wicketlaw03_live.f n).bind fun t425 => (some t425)) else (some false))) else (some false))) else (some false)))))) true
    generalize (parse s.data.toList).1.map mk34 = L at *
    rw [h3]
    simp only [Option.bind_some]
    have hpe := parse_ev (bs (printL L)) (by rw [bs_size]; omega)
    rw [bs_data] at hpe
    refine Ev.bind hpe ?_
    by_cases h5 : 16384 < (printL L).length
    · rw [hp.1 h5]
      exact Ev.pos (by rw [bs_size]; omega) (Ev.bind (Ev.now _) (Ev.now _))
    · rw [(hp.2 (by omega)).2 (by omega)]
      refine Ev.neg (by rw [bs_size]; omega) (Ev.bind (Ev.now _) (Ev.pos rfl ?_))
      show Ev (fun k => (wicketlaw03_pairs.f k L ((L.map un34).map mk34)).bind fun t423 => (if t423 = true then ((urlform_Print.f ((L.map un34).map mk34)).bind fun t424 => (if t424.toList = (bs (printL L)).toList then ((wicketlaw03_live.f k).bind fun t425 => (some t425)) else (some false))) else (some false))) true
      rw [back34]
      refine Ev.bind (pairs_evJ L (by omega)) (Ev.pos rfl ?_)
      rw [h3]
      exact Ev.bind (Ev.now _) (Ev.pos rfl (Ev.bind live_ev (Ev.now _)))
  · refine Ev.neg h1 ?_
    have := parse_err _ h1
    show Ev (fun k => if (((parse s.data.toList).1.map mk34).length : Int) = 0 then ((wicketlaw03_live.f k).bind fun t414 => (some t414)) else (some false)) true
    rw [this]
    exact Ev.pos rfl (Ev.bind live_ev (Ev.now _))
end Go.Proofs.YtgfnjdpbahecdaaDoor.Pure
