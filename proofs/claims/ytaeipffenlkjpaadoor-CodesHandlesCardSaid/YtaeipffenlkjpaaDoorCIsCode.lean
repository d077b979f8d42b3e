/-
  codes.isCode: what the call does, walked: eight letters out of the twenty.
-/
import Derived.Test.YtaeipffenlkjpaaDoorShelf
import Derived.Test.YtaeipffenlkjpaaDoorCBase
import Derived.Test.YtaeipffenlkjpaaDoorCPure
import Derived.Laws.Runes
import Derived.Shelf.Strings.FuncGrows
namespace Go.Proofs.YtaeipffenlkjpaaDoor.Sha
open Go.RowKit Go.Proofs.YtaeipffenlkjpaaDoorW.PrintWords Go.Proofs.YtaeipffenlkjpaaDoor.Cod
set_option linter.unusedVariables false
set_option linter.unusedSimpArgs false
theorem quiet_left {P : Program} {f : FuncId} {args : Array Value} {w : World} {n : Nat} {v : Value}
    (h : Calls P f args (w.drewN n) fun e w' => e = .returned v ∧ w.drewN n = w') : Calls P f args (w.drewN n) fun e w'' => e = .returned v ∧ ∃ m, w'' = w.drewN m :=
  h.mono fun _ _ ⟨he, hm⟩ => ⟨he, n, hm.symm⟩
theorem quiet_add_left {P : Program} {f : FuncId} {args : Array Value} {w : World} {a n : Nat} {v : Value}
    (h : Calls P f args (w.drewN (a + n)) fun e w' => e = .returned v ∧ w.drewN (a + n) = w') : Calls P f args (w.drewN (a + n)) fun e w'' => e = .returned v ∧ ∃ m, w'' = w.drewN (a + m) :=
  h.mono fun _ _ ⟨he, hm⟩ => ⟨he, n, hm.symm⟩
theorem indexByte_absent (l : List UInt8) (c : UInt8) (h : ∀ b ∈ l, b ≠ c) : Lib.indexByte l c = -1 := by
  induction l with
  | nil => rfl
  | cons b l ih =>
    unfold Lib.indexByte
    have hb : (b == c) = false := by
      rw [Bool.eq_false_iff]
      intro e
      exact h b (by simp) (eq_of_beq e)
    rw [ih fun x hx => h x (by simp [hx]), hb]
    rfl
def LS : ByteArray := ⟨#[66, 67, 68, 70, 71, 72, 74, 75, 76, 77, 78, 80, 81, 82, 83, 84, 86, 87, 88, 90]⟩
theorem LS_index : ∀ x, x < 128 → decide (0 ≤ Lib.indexByte LS.data.toList x.toUInt8) = decide (x ∈ lets) := by decide +kernel
theorem lets_small : ∀ x ∈ lets, x < 128 := by decide
theorem LS_small : ∀ b ∈ LS.data.toList, b.toNat < 128 := by decide +kernel
/-- What IndexRune answers at the letters. -/
def IdxOk (x : Nat) (w : World) (e : Ending) (w' : World) : Prop := ∃ n : Int, e = .returned (.int .i64 n) ∧ decide (0 ≤ n) = decide (x ∈ lets) ∧ Below w.heap.size w w'
set_option maxRecDepth 100000 in
set_option maxHeartbeats 1000000 in
theorem indexRune_low (x : Nat) (w : World) (hx : x < 128) : Calls Tryd.prog 41 #[.string LS, .int .i32 (x : Int)] w (IdxOk x w) := by
  have hcall : ∀ W : World, Calls Tryd.prog 26 #[.string LS, .int .u8 (x : Int)] W fun e w' => e = .returned (.int .i64 (Lib.indexByte LS.data.toList x.toUInt8)) ∧ W = w' := fun W =>
    (Tryd.strings_IndexByte LS (x : Int) W).mono fun e w' ⟨h, hw⟩ => ⟨by rw [h, Int.toNat_natCast], hw.symm⟩
  have HX := Lib.hid (LS_index x hx)
  have i0 : (0 : Int) ≤ (x : Int) := by omega
  have i1 : (x : Int) < 128 := by omega
  obtain ⟨L, hL⟩ : ∃ L, L = LS := ⟨_, rfl⟩
  rw [← hL] at hcall ⊢
  rw [← hL] at HX
  clear hL hx
  go_enter Tryd.func41, Tryd.ntmps41
  go_wp2_with (go_at_call 26; refine (hcall _).mono ?_; rintro e w1 ⟨rfl, rfl⟩)
  go_ret
  exact ⟨_, rfl, HX.out, Below.refl _ _⟩
theorem LS_at : ∀ pos, pos < 20 → (Utf8.decode LS pos).2 = 1 ∧ (Utf8.decode LS pos).1 < 128 := by decide +kernel
theorem LS_size : LS.size = 20 := by decide +kernel
set_option maxRecDepth 100000 in
set_option maxHeartbeats 1000000 in
theorem indexRune_err (w : World) : Calls Tryd.prog 41 #[.string LS, .int .i32 65533] w fun e w' => e = .returned (.int .i64 (-1)) ∧ Below w.heap.size w w' := by
  have HA := Lib.hid LS_at
  have HZ := Lib.hid LS_size
  obtain ⟨L, hL⟩ : ∃ L, L = LS := ⟨_, rfl⟩
  rw [← hL] at HA HZ ⊢
  clear hL
  go_enter Tryd.func41, Tryd.ntmps41
  go_wp2
  go_loopg [5, 6] 20 (fun gf v5 v6 wx => ∃ pos : Nat, wx.heap[w.heap.size]? = some (.stringIter L pos) ∧ Below w.heap.size w wx ∧ pos + gf = 20) 
  case atStart => exact ⟨0, World.iter_heap w L 0, (Below.refl _ w).alloc (Nat.le_refl _) _, by omega⟩
  case round =>
    obtain ⟨pos, hit, hbw, hfu⟩ := hrel
    by_cases hps : pos < L.size
    · have hp := HA.out pos (by rw [HZ.out] at hps; omega)
      obtain ⟨g', rfl⟩ : ∃ g', gk = g' + 1 := ⟨gk - 1, by have := HZ.out; omega⟩
      have hnx : ∀ ty, (Instr.next (.pointer (some ⟨w.heap.size, 0, none⟩)) true ty).run Tryd.prog wr = _ := fun ty => Lib.run_next_any_at wr w.heap.size L pos ty hit hps
      obtain ⟨R, hR⟩ : ∃ R, (Utf8.decode L pos).1 = R := ⟨_, rfl⟩
      rw [hp.1, hR] at hnx
      rw [hR] at hp
      have hR1 : ((R : Int) == 65533) = false := by
        rw [Bool.eq_false_iff]
        intro h
        have := eq_of_beq h
        omega
      have hit2 := Lib.iterAt_heap wr w.heap.size L pos (pos + 1) hit
      have hbw2 := Lib.below_iterAt hbw (k := w.heap.size) (Nat.le_refl _) L (pos + 1)
      obtain ⟨W, hWd⟩ : ∃ W, wr.iterAt w.heap.size L (pos + 1) = W := ⟨_, rfl⟩
      rw [hWd] at hnx hit2 hbw2
      clear hp hR hit hbw hWd
      go_wp2
      go_roundg g'
      case measure => omega
      case rel => exact ⟨pos + 1, hit2, hbw2, by omega⟩
    · have hnx : ∀ ty, (Instr.next (.pointer (some ⟨w.heap.size, 0, none⟩)) true ty).run Tryd.prog wr = _ := fun ty => Lib.run_next_end_at wr w.heap.size L pos ty hit hps
      go_wp2
      go_ret
      exact ⟨rfl, hbw⟩
set_option maxRecDepth 100000 in
set_option maxHeartbeats 1000000 in
theorem indexRune_bad (x : Nat) (w : World) (h0 : 128 ≤ x) (h1 : x ≠ 65533) (h2 : x ≤ 1114111) (hv : Lib.validRune (x : Int) = false) : Calls Tryd.prog 41 #[.string LS, .int .i32 (x : Int)] w fun e w' => e = .returned (.int .i64 (-1)) ∧ Below w.heap.size w w' := by
  have hcall : ∀ W : World, Calls Tryd.prog 44 #[.int .i32 (x : Int)] W fun e w' => e = .returned (.bool false) ∧ W = w' := fun W =>
    (Tryd.utf8_ValidRune (x : Int) W).mono fun e w' ⟨h, hw⟩ => ⟨by rw [h, hv], hw.symm⟩
  have i0 : (0 : Int) ≤ (x : Int) := by omega
  have i1 : decide ((x : Int) < 128) = false := decide_eq_false (by omega)
  have i2 : ((x : Int) == 65533) = false := by
    rw [Bool.eq_false_iff]
    intro h
    have := eq_of_beq h
    omega
  obtain ⟨L, hL⟩ : ∃ L, L = LS := ⟨_, rfl⟩
  rw [← hL]
  clear hL hv h0 h1 h2
  go_enter Tryd.func41, Tryd.ntmps41
  go_wp2_with (go_at_call 44; refine (hcall _).mono ?_; rintro e w1 ⟨rfl, rfl⟩)
  go_ret
  exact ⟨rfl, Below.refl _ _⟩
set_option maxRecDepth 100000 in
set_option maxHeartbeats 2000000 in
theorem indexRune_wide (x : Nat) (w : World) (h0 : 128 ≤ x) (h1 : x ≠ 65533) (h2 : x ≤ 1114111) (hv : Lib.validRune (x : Int) = true) : Calls Tryd.prog 41 #[.string LS, .int .i32 (x : Int)] w fun e w' => e = .returned (.int .i64 (-1)) ∧ Below w.heap.size w w' := by
  have hcall : ∀ W : World, Calls Tryd.prog 44 #[.int .i32 (x : Int)] W fun e w' => e = .returned (.bool true) ∧ W = w' := fun W =>
    (Tryd.utf8_ValidRune (x : Int) W).mono fun e w' ⟨h, hw⟩ => ⟨by rw [h, hv], hw.symm⟩
  have hE := Lib.hid (encode_facts (x : Int) (by rw [validRune_eq]; exact hv) (by omega))
  have HS := Lib.hid LS_small
  have HZ := Lib.hid LS_size
  have i0 : (0 : Int) ≤ (x : Int) := by omega
  have i1 : decide ((x : Int) < 128) = false := decide_eq_false (by omega)
  have i2 : ((x : Int) == 65533) = false := by
    rw [Bool.eq_false_iff]
    intro h
    have := eq_of_beq h
    omega
  obtain ⟨L, hL⟩ : ∃ L, L = LS := ⟨_, rfl⟩
  rw [← hL] at HS HZ ⊢
  clear hL hv h0 h1 h2
  obtain ⟨E, hEd⟩ : ∃ E, E = Utf8.encode (x : Int) := ⟨_, rfl⟩
  have hcv : ∀ W : World, (convert 21 9 (.int .i32 (x : Int))).run Tryd.prog W = .ok (.string E) W := fun W => by
    rw [hEd]; exact run_convert_int_string W 21 9 .i32 _ (by rw [Tryd.underlying21]; rfl) Tryd.underlying9
  rw [← hEd] at hE
  have hE1 := hE.out.1
  have hE2 := hE.out.2.1
  clear hEd
  go_enter Tryd.func41, Tryd.ntmps41
  go_wp2_with (go_at_call 44; refine (hcall _).mono ?_; rintro e w1 ⟨rfl, rfl⟩)
  go_step3
  go_wp2
  obtain ⟨m, hm⟩ : ∃ m : Nat, E.size = m + 1 := ⟨E.size - 1, by omega⟩
  have hm1 : (E.size : Int) - 1 = (m : Int) := by omega
  have hlt : m < E.size := by omega
  obtain ⟨b, hb⟩ : ∃ b, b = E[m]'hlt := ⟨_, rfl⟩
  have hb1 : 128 ≤ b.toNat := by
    have h := hE.out.2.2 (by omega)
    rw [hb]
    simpa [hm] using h
  have hmL : m < L.size := by rw [HZ.out]; omega
  obtain ⟨a, ha⟩ : ∃ a, a = L[m]'hmL := ⟨_, rfl⟩
  have ha1 : a.toNat < 128 := by rw [ha]; exact HS.out _ (by show L.data[m] ∈ _; simp)
  rw [hm1]
  refine wp_loop_rounds 1 ?_
  rw [rounds_succ]
  go_wp2
  have hidx : ∀ W : World, (Instr.index 9 (.string L) (.int .i64 (m : Int))).run Tryd.prog W = .ok (.int .u8 (a.toNat : Int)) W := fun W => by
    rw [ha]; clear hm hm1; go_simp
  have hidy : ∀ W : World, (Instr.index 9 (.string E) (.int .i64 (m : Int))).run Tryd.prog W = .ok (.int .u8 (b.toNat : Int)) W := fun W => by
    rw [hb]; clear hm hm1; go_simp
  have hne : ((a.toNat : Int) != (b.toNat : Int)) = true := by
    rw [bne_iff_ne]
    omega
  have hcall2 : ∀ W : World, Calls Tryd.prog 26 #[.string (L.extract (m + 1) L.size), .int .u8 (b.toNat : Int)] W fun e w' => e = .returned (.int .i64 (-1)) ∧ W = w' := fun W =>
    (Tryd.strings_IndexByte _ (b.toNat : Int) W).mono fun e w' ⟨h, hw⟩ => ⟨by
      rw [h, indexByte_absent]
      intro c hc e
      have h1 := HS.out c (mem_extract hc)
      rw [e, Int.toNat_natCast] at h1
      simp at h1
      omega, hw.symm⟩
  have j0 : (0 : Int) ≤ (m : Int) := by omega
  have j1 : (m : Int) ≤ 3 := by omega
  have j2 : IntKind.i64.wrap ((m : Int) + 1) = (m : Int) + 1 := IntWalk.i64_in _ (by omega)
  have j3 : (0 : Int) ≤ (m : Int) + 1 := by omega
  have j4 : ((m : Int) + 1).toNat = m + 1 := by omega
  have j5 : (m : Int) + 1 ≤ (L.size : Int) := by omega
  have HC := Lib.hid hcall2
  clear ha hb hm hm1 hcall hcall2
  go_step3
  go_wp2
  go_quiet (fail)
  go_wp2
  go_quiet ((go_at_call 26; first | exact quiet_left (HC.out _) | exact quiet_add_left (HC.out _)))
  go_wp2
  rw [Exit.noGoto_ret]
  go_simp
  go_ret
  exact ⟨rfl, below_drewN (Below.refl _ _) _⟩
theorem lets_rune (x : Nat) (h : 128 ≤ x) : decide (x ∈ lets) = false := decide_eq_false fun hx => by have := lets_small x hx; omega
theorem indexRune_any (x : Nat) (w : World) (hx : x ≤ 1114111) : Calls Tryd.prog 41 #[.string LS, .int .i32 (x : Int)] w (IdxOk x w) := by
  rcases Nat.lt_or_ge x 128 with h | h
  · exact indexRune_low x w h
  · have hl := lets_rune x h
    by_cases h1 : x = 65533
    · subst h1
      exact (indexRune_err w).mono fun e w' ⟨he, hb⟩ => ⟨-1, he, by rw [hl]; rfl, hb⟩
    · cases hv : Lib.validRune (x : Int) with
      | false => exact (indexRune_bad x w h h1 hx hv).mono fun e w' ⟨he, hb⟩ => ⟨-1, he, by rw [hl]; rfl, hb⟩
      | true => exact (indexRune_wide x w h h1 hx hv).mono fun e w' ⟨he, hb⟩ => ⟨-1, he, by rw [hl]; rfl, hb⟩
theorem containsRune_any (x : Nat) (w : World) (hx : x ≤ 1114111) : Calls Tryd.prog 36 #[.string LS, .int .i32 (x : Int)] w fun e w' => e = .returned (.bool (decide (x ∈ lets))) ∧ Below w.heap.size w w' := by
  have hcall := fun W : World => indexRune_any x W hx
  obtain ⟨L, hL⟩ : ∃ L, L = LS := ⟨_, rfl⟩
  rw [← hL] at hcall ⊢
  clear hL
  go_enter Tryd.func36, Tryd.ntmps36
  go_wp2_with (go_at_call 41; refine (hcall _).mono ?_; rintro e w1 ⟨n, rfl, hn, hb⟩; have HN := Lib.hid hn; clear hn)
  go_ret
  refine ⟨?_, hb⟩
  rw [← HN.out]
  rfl
theorem other_any (x : Nat) (w : World) (hx : x ≤ 1114111) : Calls Tryd.prog 35 #[.int .i32 (x : Int)] w fun e w' => e = .returned (.bool (!decide (x ∈ lets))) ∧ Below w.heap.size w w' := by
  have hcall := fun W : World => containsRune_any x W hx
  obtain ⟨b, hb⟩ : ∃ b, b = decide (x ∈ lets) := ⟨_, rfl⟩
  rw [← hb] at hcall ⊢
  clear hb
  unfold LS at hcall
  go_enter Tryd.func35, Tryd.ntmps35
  go_wp2_with (go_at_call 36; refine (hcall _).mono ?_; rintro e w1 ⟨rfl, hb⟩)
  go_ret
  exact ⟨rfl, hb⟩
/-- No rune that is no letter: no byte that is none. -/
theorem decode_low (s : ByteArray) (pos : Nat) (h : pos < s.size) (hb : (s.data.toList[pos]'(by simpa using h)).toNat < 128) : Utf8.decode s pos = ((s.data.toList[pos]'(by simpa using h)).toNat, 1) := by
  have e : s.get! (pos + 0) = s.data.toList[pos]'(by simpa using h) := by
    rw [Nat.add_zero]
    show s.data[pos]! = _
    rw [getElem!_pos s.data pos (by simpa using h)]
    simp
  unfold Utf8.decode
  simp only [e]
  rw [if_pos hb]
theorem decode_high (s : ByteArray) (pos : Nat) (h : pos < s.size) (hb : 128 ≤ (s.data.toList[pos]'(by simpa using h)).toNat) : 128 ≤ (Utf8.decode s pos).1 := by
  have e : s.get! (pos + 0) = s.data.toList[pos]'(by simpa using h) := by
    rw [Nat.add_zero]
    show s.data[pos]! = _
    rw [getElem!_pos s.data pos (by simpa using h)]
    simp
  unfold Utf8.decode
  simp only [e]
  rw [if_neg (by omega)]
  repeat' split
  all_goals first
    | (show 128 ≤ 65533; decide)
    | (rename_i h; rw [Bool.and_eq_true] at h; have h2 := of_decide_eq_true h.1; exact Nat.le_trans (by decide) h2)
    | (rename_i h; exact h)
/-- No rune that is no letter: no byte that is none. -/
theorem other_from (s : ByteArray) : ∀ (f pos : Nat), s.size ≤ pos + f → decide (0 ≤ Lib.idxFuncFrom (fun x => !decide (x ∈ lets)) true s f pos) = (s.data.toList.drop pos).any fun b => !decide (b.toNat ∈ lets)
  | 0, pos, h => by
    rw [List.drop_eq_nil_of_le (by simpa using h)]
    rfl
  | f + 1, pos, h => by
    by_cases hp : pos < s.size
    · have hl : pos < s.data.toList.length := by simpa using hp
      rw [List.drop_eq_getElem_cons hl, List.any_cons]
      simp only [Lib.idxFuncFrom, hp, if_true]
      rcases Nat.lt_or_ge (s.data.toList[pos]'hl).toNat 128 with hb | hb
      · rw [decode_low s pos hp hb]
        show decide (0 ≤ if (!decide ((s.data.toList[pos]'hl).toNat ∈ lets)) = true then (pos : Int) else Lib.idxFuncFrom _ true s f (pos + 1)) = _
        cases hd : decide ((s.data.toList[pos]'hl).toNat ∈ lets) with
        | true =>
          rw [if_neg (by simp), other_from s f (pos + 1) (by omega)]
          simp
        | false =>
          rw [if_pos (by simp)]
          simp
      · have hr := decode_high s pos hp hb
        have h1 : decide ((Utf8.decode s pos).1 ∈ lets) = false := lets_rune _ hr
        have h2 : decide ((s.data.toList[pos]'hl).toNat ∈ lets) = false := lets_rune _ hb
        rw [h2, if_pos (by rw [h1]; rfl)]
        simp
    · rw [List.drop_eq_nil_of_le (by simp; omega), Lib.idxFuncFrom_end _ _ _ _ _ hp]
      rfl
/-- The bytes of a string. -/
def sN (s : ByteArray) : List Nat := s.data.toList.map UInt8.toNat
theorem sN_len (s : ByteArray) : (sN s).length = s.size := by simp [sN]
theorem other_all (s : ByteArray) : decide (0 ≤ Lib.idxFunc (fun x => !decide (x ∈ lets)) true s) = !((sN s).all fun x => decide (x ∈ lets)) := by
  unfold Lib.idxFunc
  rw [other_from s s.size 0 (by omega), List.drop_zero]
  unfold sN
  rw [List.all_map]
  induction s.data.toList with
  | nil => rfl
  | cons b l ih => simp only [List.any_cons, List.all_cons, ih, Function.comp, Bool.not_and]
set_option maxHeartbeats 1000000 in
theorem isCode_any (s : ByteArray) (w : World) : Calls Tryd.prog 27 #[.string s] w fun e w' => e = .returned (.bool (isCode (sN s))) ∧ Below w.heap.size w w' := by
  have eg : ∀ args w, (callFunc 35 args).run Tryd.prog w = .ok (.enter 35 args) w := enters_of Tryd.func35 (by kernel_rfl) rfl
  have hcall : ∀ W : World, Calls Tryd.prog 37 #[.string s, .func (.func 35) #[] #[]] W fun e w' => e = .returned (.bool (!((sN s).all fun x => decide (x ∈ lets)))) ∧ Below W.heap.size W w' := fun W =>
    (Tryd.strings_ContainsFunc_grows 35 #[] eg (fun x => !decide (x ∈ lets)) s W (fun V x hx hb => other_any x V hx)).mono fun e w' ⟨h, hw⟩ => ⟨by rw [h, other_all], hw⟩
  unfold isCode
  rw [sN_len]
  obtain ⟨b, hb⟩ : ∃ b, b = (sN s).all fun x => decide (x ∈ lets) := ⟨_, rfl⟩
  rw [← hb] at hcall ⊢
  have HC := Lib.hid hcall
  clear hb hcall eg
  by_cases h8 : s.size = 8
  · have h9 : ((s.size : Int) == 8) = true := by rw [h8]; rfl
    have H8 := Lib.hid h8
    clear h8
    go_enter Tryd.func27, Tryd.ntmps27
    go_wp2_with (go_at_call 37; refine (HC.out _).mono ?_; rintro e w1 ⟨rfl, hb1⟩)
    go_ret
    refine ⟨?_, hb1⟩
    rw [H8.out]
    cases b <;> rfl
  · have h9 : ((s.size : Int) == 8) = false := by
      rw [Bool.eq_false_iff]
      intro h
      have := eq_of_beq h
      omega
    have H8 := Lib.hid h8
    clear h8
    go_enter Tryd.func27, Tryd.ntmps27
    go_wp2
    go_ret
    refine ⟨?_, Below.refl _ _⟩
    rw [decide_eq_false H8.out]
    rfl
end Go.Proofs.YtaeipffenlkjpaaDoor.Sha
