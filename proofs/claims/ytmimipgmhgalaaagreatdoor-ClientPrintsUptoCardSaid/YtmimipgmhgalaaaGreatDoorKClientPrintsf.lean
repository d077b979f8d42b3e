/-
  Part 6 of what the proof of ClientPrints leans on: words of the print, walks of functions and plain laws; put together by pack.py, a program of this session.
-/
import Derived.Lib.ConvBytes
import Derived.Laws.BitsLemmas
import Derived.Lib.Hide
import Derived.Great.Walk
import Derived.Test.YtmimipgmhgalaaaGreatDoorRows
import Derived.ProofKit
import Derived.WalkKit
import Derived.SizedLaws
import Derived.Test.YtmimipgmhgalaaaGreatDoorKClientPrintse
section
namespace Go.Proofs.YtmimipgmhgalaaaGreatDoor.Pure
open Go.RowKit Go.Proofs.YtmimipgmhgalaaaGreatDoorW.PrintWords Go.Proofs.YtmimipgmhgalaaaGreatDoor.Plain Go.Proofs.YtmimipgmhgalaaaGreatDoor.Spec Go.Proofs.YtmimipgmhgalaaaGreatDoor.PAll
set_option linter.unusedSimpArgs false
set_option linter.unusedVariables false
theorem jsum (l : List ByteArray) : (joinedL l).length ≤ (l.map fun y => (y.size + 1)).sum := by
  have h2 : ∀ r : List ByteArray, (Lib.joinTail [32] (r.map (·.data.toList))).length ≤ (r.map fun y => (y.size + 1)).sum := by
    intro r
    induction r with
    | nil => simp [Lib.joinTail]
    | cons x r ih =>
      have e : (Lib.joinTail [32] ((x :: r).map (·.data.toList))).length = 1 + x.data.toList.length + (Lib.joinTail [32] (r.map (·.data.toList))).length := by
        unfold Lib.joinTail
        rw [List.map_cons, List.map_cons, List.flatten_cons, List.length_append, List.length_append]
        rfl
      have hx : x.data.toList.length = x.size := data_len _
      rw [e]
      simp only [List.map_cons, List.sum_cons]
      omega
  cases l with
  | nil => simp [joinedL, Lib.join_nil]
  | cons x r =>
    have h3 := h2 r
    have hx : x.data.toList.length = x.size := data_len _
    unfold joinedL
    rw [List.map_cons, Lib.join_cons, List.length_append]
    simp only [List.map_cons, List.sum_cons]
    omega
theorem small_weight (l : List CC) (n : Nat) (h : (l.map weightC).sum ≤ n) (hn : n ≤ 1048576) : ∀ x ∈ l, Small (toT x) := by
  intro x hx
  have h2 : weightC x ≤ n := Nat.le_trans ((weight_mem l).2 x hx) h
  have h3 := jsum x.f5
  have h4 := sum_names x.f5
  unfold weightC at h2
  exact ⟨by show x.f0.size ≤ _; omega, by show x.f1.size ≤ _; omega, by show x.f4.size ≤ _; omega, by show x.f5.length ≤ _; omega, by show (joinedL x.f5).length ≤ _; omega⟩
theorem small_b {c : ClT} (h : Small c) : smallB c = true := by
  unfold smallB
  exact decide_eq_true ⟨h.i, h.s, h.u, h.n, h.j⟩
theorem print_some (l : List CC) (hs : ∀ x ∈ l, Small (toT x)) : client_Print.f l = some (printC l) := by
  unfold client_Print.f
  rw [if_pos (List.all_eq_true.2 fun x hx => small_b (hs x hx))]
theorem found_iff (a : ByteArray) (l : List CC) : (foundC a l).2 = true ↔ a ∈ idsC l := by
  induction l with
  | nil => simp [foundC, idsC]
  | cons x r ih =>
    unfold foundC
    unfold idsC at ih ⊢
    rw [List.map_cons, List.mem_cons]
    by_cases h : x.f0.toList = a.toList
    · rw [if_pos h]
      have := toList_inj h
      simp [this]
    · rw [if_neg h, ih]
      constructor
      · exact Or.inr
      · rintro (rfl | h2)
        · exact absurd rfl h
        · exact h2
theorem ids_take (l : List CC) (i : Nat) (h : i < l.length) : idsC (l.take (i + 1)) = idsC (l.take i) ++ [l[i].f0] := by
  unfold idsC
  rw [List.take_succ_eq_append_getElem h, List.map_append]
  rfl
theorem ids_twice (l : List CC) (i : Nat) (h : i < l.length) (hm : l[i].f0 ∈ idsC (l.take i)) : ¬ (idsC l).Nodup := by
  intro hn
  have e : l = l.take i ++ l[i] :: l.drop (i + 1) := by rw [← List.drop_eq_getElem_cons h, List.take_append_drop]
  have e2 : idsC l = idsC (l.take i) ++ l[i].f0 :: idsC (l.drop (i + 1)) := by
    conv => lhs; rw [e]
    unfold idsC
    rw [List.map_append, List.map_cons]
  rw [e2, List.nodup_append] at hn
  exact hn.2.2 _ hm l[i].f0 (by simp) rfl
def printO (l : List CC) : ByteArray × Int := if (linesB l).length > 65536 then (⟨#[]⟩, 1) else (bs (linesB l), 0)
theorem p2 (l : List CC) (hf : ∀ x ∈ l, checkL (toT x) = true) (hn : l.length ≤ 256) : ∀ (m i : Nat), i + m = l.length → Ev (fun k => wicketref11_Print.l2 k (l.map toR) (bs (linesB (l.take i))) (i : Int)) (printO l) := by
  intro m
  induction m with
  | zero =>
    intro i hi
    refine Ev.step (f := fun _ => some (printO l)) (fun k => ?_) (Ev.now _)
    simp only [wicketref11_Print.l2]
    rw [if_neg (by rw [List.length_map]; omega), List.take_of_length_le (by omega)]
    unfold printO
    by_cases h : (linesB l).length > 65536
    · rw [if_pos h, if_pos (by rw [bs_size]; omega)]
    · rw [if_neg h, if_neg (by rw [bs_size]; omega)]
  | succ m ih =>
    intro i hi
    have hlt : i < l.length := by omega
    have hr : rd_T43 (l.map toR) (i : Int) = toR l[i] := by rw [rdR _ _ (by rw [List.length_map]; omega), List.getElem_map]
    have hfit := fits_of _ (hf _ (List.getElem_mem hlt))
    have hll := lineB_len _ hfit
    have hlen := linesB_len (l.take i) fun x hx => hf x (List.mem_of_mem_take hx)
    rw [List.length_take] at hlen
    have hmin : min i l.length ≤ 256 := by omega
    have hs : Ev (fun k => wicketref11_said.f k (toR l[i]).f0 (toR l[i]).f1 (toR l[i]).f2 (toR l[i]).f3 (toR l[i]).f4 (toR l[i]).f5) (bs (lineB (toT l[i]))) := said_ev (toT l[i]) hfit
    refine Ev.step (f := fun k => (wicketref11_said.f k (toR l[i]).f0 (toR l[i]).f1 (toR l[i]).f2 (toR l[i]).f3 (toR l[i]).f4 (toR l[i]).f5).bind fun t521 => (if (bs (linesB (l.take i))).size + t521.size ≤ 9223372036854775807 then (wicketref11_Print.l2 k (l.map toR) (bs (linesB (l.take i)) ++ t521) (wrap64 ((i : Int) + 1))) else none)) (fun k => ?_) (Ev.bind hs ?_)
    · simp only [wicketref11_Print.l2]
      rw [if_pos (by rw [List.length_map]; omega), if_pos (by omega), hr]
    · have hn1 := ih (i + 1) (by omega)
      refine Ev.pos (by rw [bs_size, bs_size]; omega) ?_
      rw [w64 (by omega) (by omega), bs_append, ← linesB_take l i hlt]
      exact hn1
theorem p1 (l : List CC) (hl : SmallC l) (hf : ∀ x ∈ l, checkL (toT x) = true) : ∀ (m i : Nat), i + m = l.length → (idsC (l.take i)).Nodup →
    Ev (fun k => wicketref11_Print.l1 k (l.map toR) (i : Int)) (if ¬ (idsC l).Nodup then (⟨#[]⟩, 8) else if l.length > 256 then (⟨#[]⟩, 32) else printO l) := by
  have h1 := hl.1
  intro m
  induction m with
  | zero =>
    intro i hi hd
    rw [List.take_of_length_le (by omega)] at hd
    by_cases h : l.length > 256
    · refine Ev.step (f := fun _ => some _) (fun k => ?_) (Ev.now _)
      simp only [wicketref11_Print.l1]
      rw [if_neg (by rw [List.length_map]; omega), if_pos (by rw [List.length_map]; omega), if_neg (by simpa using hd), if_pos h]
    · have h2 := p2 l hf (by omega) l.length 0 (by omega)
      refine Ev.step (fun k => ?_) (Ev.eq h2 (by rw [if_neg (by simpa using hd), if_neg h]))
      simp only [wicketref11_Print.l1]
      rw [if_neg (by rw [List.length_map]; omega), if_neg (by rw [List.length_map]; omega)]
      rfl
  | succ m ih =>
    intro i hi hd
    have hlt : i < l.length := by omega
    have hr : rd_T43 (l.map toR) (i : Int) = toR l[i] := by rw [rdR _ _ (by rw [List.length_map]; omega), List.getElem_map]
    have hsm : SmallC (l.take i) := ⟨by rw [List.length_take]; omega, fun x hx => hl.2 x (List.mem_of_mem_take hx)⟩
    have hfd := rfind_ev (l.take i) hsm l[i].f0
    rw [List.map_take] at hfd
    refine Ev.step (f := fun k => (wicketref11_Find.f k ((l.map toR).take i) l[i].f0).bind fun bt510 => (if bt510.2.2.2.2.2.2 = true then (some ((⟨#[]⟩ : ByteArray), 8)) else (wicketref11_Print.l1 k (l.map toR) (wrap64 ((i : Int) + 1))))) (fun k => ?_) (Ev.bind hfd ?_)
    · simp only [wicketref11_Print.l1]
      rw [if_pos (by rw [List.length_map]; omega), if_pos (by omega), if_pos (by rw [List.length_map]; omega), hr, Int.toNat_natCast]
      rfl
    · by_cases hm : l[i].f0 ∈ idsC (l.take i)
      · exact Ev.pos ((found_iff _ _).2 hm) (Ev.eq (Ev.now _) (by rw [if_pos (ids_twice l i hlt hm)]))
      · refine Ev.neg (fun h => hm ((found_iff _ _).1 h)) ?_
        rw [w64 (by omega) (by omega)]
        refine ih (i + 1) (by omega) ?_
        rw [ids_take l i hlt, List.nodup_append]
        refine ⟨hd, by simp, fun a ha b hb e => hm ?_⟩
        rw [List.mem_singleton] at hb
        rw [← hb, ← e]
        exact ha
theorem p0 (l : List CC) (hl : SmallC l) (hs : ∀ x ∈ l, Small (toT x)) : ∀ (m i : Nat), i + m = l.length → (∀ x ∈ l.take i, checkL (toT x) = true) →
    Ev (fun k => wicketref11_Print.l0 k (l.map toR) (i : Int)) (printC l) := by
  have h1 := hl.1
  intro m
  induction m with
  | zero =>
    intro i hi hc
    rw [List.take_of_length_le (by omega)] at hc
    have h2 := p1 l hl hc l.length 0 (by omega) (by simp [idsC])
    have hnb : ¬ badC l = true := by
      intro h
      obtain ⟨x, hx, h2⟩ := List.any_eq_true.1 h
      rw [hc x hx] at h2
      cases h2
    refine Ev.step (fun k => ?_) (Ev.eq h2 (by unfold printC printO; rw [if_neg hnb]))
    simp only [wicketref11_Print.l0]
    rw [if_neg (by rw [List.length_map]; omega)]
    rfl
  | succ m ih =>
    intro i hi hc
    have hlt : i < l.length := by omega
    have hr : rd_T43 (l.map toR) (i : Int) = toR l[i] := by rw [rdR _ _ (by rw [List.length_map]; omega), List.getElem_map]
    have hck : Ev (fun k => wicketref11_Check.f k (toR l[i]).f0 (toR l[i]).f1 (toR l[i]).f2 (toR l[i]).f3 (toR l[i]).f4 (toR l[i]).f5) (numC (checkL (toT l[i]))) := refcheck_ev (toT l[i]) (hs _ (List.getElem_mem hlt))
    refine Ev.step (f := fun k => (wicketref11_Check.f k (toR l[i]).f0 (toR l[i]).f1 (toR l[i]).f2 (toR l[i]).f3 (toR l[i]).f4 (toR l[i]).f5).bind fun t504 => (if t504 = 0 then (wicketref11_Print.l0 k (l.map toR) (wrap64 ((i : Int) + 1))) else (some ((⟨#[]⟩ : ByteArray), 111)))) (fun k => ?_) (Ev.bind hck ?_)
    · simp only [wicketref11_Print.l0]
      rw [if_pos (by rw [List.length_map]; omega), if_pos (by omega), hr]
    · cases hcc : checkL (toT l[i]) with
      | true =>
        refine Ev.pos rfl ?_
        rw [w64 (by omega) (by omega)]
        refine ih (i + 1) (by omega) ?_
        rw [List.take_succ_eq_append_getElem hlt]
        intro x hx
        rcases List.mem_append.1 hx with hx | hx
        · exact hc x hx
        · rw [List.mem_singleton.1 hx]; exact hcc
      | false =>
        refine Ev.neg (by decide) (Ev.eq (Ev.now _) ?_)
        unfold printC
        have hb : badC l = true := List.any_eq_true.2 ⟨l[i], List.getElem_mem hlt, by rw [hcc]; rfl⟩
        rw [if_pos hb]
theorem refPrint_ev (l : List CC) (hl : SmallC l) (hs : ∀ x ∈ l, Small (toT x)) : Ev (fun k => wicketref11_Print.f k (l.map toR)) (printC l) := by
  unfold wicketref11_Print.f
  exact p0 l hl hs l.length 0 (by omega) (by simp)
end Go.Proofs.YtmimipgmhgalaaaGreatDoor.Pure
end
section
namespace Go.Proofs.YtmimipgmhgalaaaGreatDoor.PAll
open Go.RowKit Go.Proofs.YtmimipgmhgalaaaGreatDoorW.PrintWords Go.Proofs.YtmimipgmhgalaaaGreatDoor.Plain Go.Proofs.YtmimipgmhgalaaaGreatDoor.Pure
set_option linter.unusedVariables false
theorem C_bytes (w : World) (s : ByteArray) (hs : s.size ≤ 9223372036854775807) : Kd.C (Kd.int .u8) (Lib.bytesWorld w 5 s) (some ⟨w.heap.size, 0, none⟩) (bytesOf s).length (bytesOf s) := by
  refine Kd.C_of_reads (enc := Value.int .u8) (d := (0 : Int)) (h1 := fun _ => rfl) ⟨rfl, by rw [bytesOf_length]; exact hs, fun h0 => ⟨_, rfl, fun j hj => ?_⟩⟩
  rw [bytesOf_length] at hj
  have h := Lib.bytesWorld_cell w 5 s j hj
  have e : (Addr.mk w.heap.size 0 none).add j = ⟨w.heap.size, j, none⟩ := by
    unfold Addr.add
    by_cases h0 : j = 0
    · subst h0; rfl
    · rw [if_neg h0]; simp
  rw [e, h]
  have hl : j < s.data.toList.length := by rw [Array.length_toList]; exact hj
  congr 2
  simp [bytesOf, List.getD]
  cases s.data[j]? <;> simp
theorem below_bytes (w : World) (s : ByteArray) : Below w.heap.size w (Lib.bytesWorld w 5 s) := by
  refine ⟨rfl, rfl, rfl, ?_, fun k hk => Lib.bytesWorld_at_old w 5 s k hk⟩
  rw [Lib.bytesWorld_size]; omega
theorem xor_nat (x y : Nat) (hx : x < 256) (hy : y < 256) : Go.bits .xor .u8 (x : Int) (y : Int) = ((x ^^^ y : Nat) : Int) ∧ x ^^^ y < 256 := by
  have h := Nat.xor_lt_two_pow (n := 8) hx hy
  refine ⟨?_, h⟩
  simp only [bits, BitVec.ofInt_natCast, BitVec.toNat_xor, BitVec.toNat_ofNat]
  rw [show (2 : Nat) ^ IntKind.u8.bits = 256 from rfl, Nat.mod_eq_of_lt hx, Nat.mod_eq_of_lt hy]
  exact wraps_u8 _ (by omega) (by omega)
theorem or_xor (d x y : Nat) (hd : d < 256) (hx : x < 256) (hy : y < 256) : ∃ n : Nat, n < 256 ∧ Go.bits .or .u8 (d : Int) (Go.bits .xor .u8 (x : Int) (y : Int)) = (n : Int) ∧ (n = 0 ↔ d = 0 ∧ x = y) := by
  obtain ⟨h1, h2⟩ := xor_nat x y hx hy
  have h3 := (bits_nat .u8 8 (by decide) wraps_u8 d (x ^^^ y) hd h2).2
  refine ⟨d ||| (x ^^^ y), Nat.or_lt_two_pow (n := 8) hd h2, by rw [h1, h3], ?_⟩
  rw [Nat.or_eq_zero_iff]
  have hx : x ^^^ y = 0 ↔ x = y := by
    constructor
    · intro h
      have h5 := congrArg (fun z => z ^^^ y) h
      simpa [Nat.xor_assoc] using h5
    · rintro rfl; simp
  rw [hx]
theorem rd_bytes (s : ByteArray) (i : Nat) (h : i < s.size) : rd (bytesOf s) (i : Int) = (s[i].toNat : Int) := by
  have h1 : i < s.data.toList.length := by rw [Spec.data_len]; exact h
  unfold rd bytesOf
  rw [Int.toNat_natCast, List.getD_eq_getElem?_getD, List.getElem?_map, List.getElem?_eq_getElem h1]
  rfl
theorem same_loop (a b : ByteArray) (hl : a.size = b.size) (hs : a.size ≤ 140737488355328) : ∀ (m i d : Nat), i + m = a.size → d < 256 →
    Ev (fun k => digest_Same.l0 k (bytesOf a) (bytesOf b) (d : Int) (a.size : Int) (i : Int)) (decide (d = 0) && decide (a.data.toList.drop i = b.data.toList.drop i)) := by
  have hal := bytesOf_length a
  have hbl := bytesOf_length b
  intro m
  induction m with
  | zero =>
    intro i d hi hd
    rw [List.drop_eq_nil_of_le (by rw [Spec.data_len]; omega), List.drop_eq_nil_of_le (by rw [Spec.data_len]; omega)]
    refine Ev.step (f := fun _ => some ((d : Int) == 0)) (fun k => ?_) (Ev.eq (Ev.now _) ?_)
    · simp only [digest_Same.l0]
      rw [if_neg (by omega)]
    · rw [decide_eq_true rfl, Bool.and_true, Bool.eq_iff_iff]; simp
  | succ m ih =>
    intro i d hi hd
    have ha : i < a.size := by omega
    have hb : i < b.size := by omega
    have ra := rd_bytes a i ha
    have rb := rd_bytes b i hb
    obtain ⟨n, hn, he, hz⟩ := or_xor d a[i].toNat b[i].toNat hd a[i].toNat_lt b[i].toNat_lt
    refine Ev.step (fun k => ?_) (Ev.eq (ih (i + 1) n (by omega) hn) ?_)
    · simp only [digest_Same.l0]
      rw [if_pos (by omega), if_pos (by omega), if_pos (by omega), if_pos (by omega), ra, rb, he, w64 (by omega) (by omega)]
      rfl
    · rw [Spec.drop_at a i ha, Spec.drop_at b i hb, Bool.eq_iff_iff]
      simp only [Bool.and_eq_true, decide_eq_true_eq, List.cons.injEq, hz]
      constructor
      · rintro ⟨⟨h1, h2⟩, h3⟩
        exact ⟨h1, UInt8.toNat_inj.1 h2, h3⟩
      · rintro ⟨h1, h2, h3⟩
        exact ⟨⟨h1, by rw [h2]⟩, h3⟩
theorem same_ev (a b : ByteArray) (hs : a.size ≤ 140737488355328) : Ev (fun k => digest_Same.f k (bytesOf a) (bytesOf b)) (decide (a = b)) := by
  have hal := bytesOf_length a
  have hbl := bytesOf_length b
  unfold digest_Same.f
  by_cases hl : a.size = b.size
  · refine Ev.pos (by omega) ?_
    have h := same_loop a b hl hs a.size 0 0 (by omega) (by omega)
    rw [List.drop_zero, List.drop_zero, decide_eq_true rfl, Bool.true_and] at h
    rw [hal]
    refine Ev.eq h ?_
    rw [decide_eq_decide]
    constructor
    · intro e
      have := congrArg Spec.bs e
      rwa [Spec.bs_of, Spec.bs_of] at this
    · intro e; rw [e]
  · refine Ev.neg (by omega) (Ev.eq (Ev.now _) ?_)
    rw [eq_comm, decide_eq_false_iff_not]
    intro e; exact hl (by rw [e])
def client_same.f (a0 a1 : ByteArray) : Option Bool := if a0.size ≤ 140737488355328 ∧ a1.size ≤ 140737488355328 then some (decide (a0 = a1)) else none
set_option maxHeartbeats 4000000 in
set_option maxRecDepth 100000 in
theorem client_same.calls (a0 a1 : ByteArray) (r1 : Bool) (w : World) (h : client_same.f a0 a1 = some r1) :
    Calls Tryz.prog 109 #[.string a0, .string a1] w fun e w' => e = .returned (.bool r1) ∧ Below w.heap.size w w' := by
  unfold client_same.f at h
  split at h
  · rename_i hs
    obtain rfl := Option.some.inj h
    obtain ⟨k, hk⟩ := Ev.rounds (same_ev a0 a1 hs.1)
    have c1 := Lib.run_convert_string_bytes w 9 79 5 a0 Tryz.underlying9 Tryz.underlying79 Tryz.underlying5
    have c2 := Lib.run_convert_string_bytes (Lib.bytesWorld w 5 a0) 9 79 5 a1 Tryz.underlying9 Tryz.underlying79 Tryz.underlying5
    have b1 := below_bytes w a0
    have b2 := below_bytes (Lib.bytesWorld w 5 a0) a1
    have hB := b1.trans (b2.mono b1.size)
    have k1 := Kd.C_below (C_bytes w a0 (by omega)) b2
    have k2 := C_bytes (Lib.bytesWorld w 5 a0) a1 (by omega)
    have g1 : (bytesOf a0).length ≤ grownCap w a0.size 0 5 := by rw [bytesOf_length]; exact grownCap_ge ..
    have g2 : (bytesOf a1).length ≤ grownCap (Lib.bytesWorld w 5 a0) a1.size 0 5 := by rw [bytesOf_length]; exact grownCap_ge ..
    have hcall := digest_Same.calls k _ _ (bytesOf a0) _ _ (bytesOf a1) _ _ k1 g1 k2 g2 hk
    rw [bytesOf_length, bytesOf_length, Lib.bytesWorld_size] at hcall
    rw [Lib.bytesWorld_size] at c2
    clear k1 k2 g1 g2 b1 b2 hk
    go_enter Tryz.func109, Tryz.ntmps109
    go_wp2_with (go_at_call 137; refine hcall.mono ?_; rintro e w1 ⟨rfl, hd⟩)
    go_ret
    exact ⟨rfl, hB.trans ((hd.below).mono hB.size)⟩
  · cases h
end Go.Proofs.YtmimipgmhgalaaaGreatDoor.PAll
end
section
namespace Go.Proofs.YtmimipgmhgalaaaGreatDoor.PAll
open Go.RowKit Go.Proofs.YtmimipgmhgalaaaGreatDoorW.PrintWords Go.Proofs.YtmimipgmhgalaaaGreatDoorW.PrintLast Go.Proofs.YtmimipgmhgalaaaGreatDoorW.PrintMore
set_option linter.unusedVariables false
set_option linter.unusedSimpArgs false
theorem put_six {w : World} {g : Nat} {t : TypeId} {a0 a1 a2 a3 a4 a5 : Value} (h : w.heap[g]? = some (.cells #[a0, a1, a2, a3, a4, a5] t (0, 0))) (b0 b1 b2 b3 b4 b5 : Value) :
    ((((((w.setCell ⟨g, 0, none⟩ b0).setCell ⟨g, 1, none⟩ b1).setCell ⟨g, 2, none⟩ b2).setCell ⟨g, 3, none⟩ b3).setCell ⟨g, 4, none⟩ b4).setCell ⟨g, 5, none⟩ b5).heap[g]? = some (.cells #[b0, b1, b2, b3, b4, b5] t (0, 0)) :=
  blk_put (blk_put (blk_put (blk_put (blk_put (blk_put h 0 b0 rfl) 1 b1 rfl) 2 b2 rfl) 3 b3 rfl) 4 b4 rfl) 5 b5 rfl
theorem below_six {V w : World} {g : Nat} (h : Below V.heap.size V w) (hg : V.heap.size ≤ g) (b0 b1 b2 b3 b4 b5 : Value) :
    Below V.heap.size V ((((((w.setCell ⟨g, 0, none⟩ b0).setCell ⟨g, 1, none⟩ b1).setCell ⟨g, 2, none⟩ b2).setCell ⟨g, 3, none⟩ b3).setCell ⟨g, 4, none⟩ b4).setCell ⟨g, 5, none⟩ b5) :=
  below_set (below_set (below_set (below_set (below_set (below_set h hg) hg) hg) hg) hg) hg
set_option maxRecDepth 100000 in
set_option maxHeartbeats 1000000 in
theorem proven_yes (A : Option Addr) (c : Nat) (V : World) : Calls Tryz.prog 70 #[.agg #[.string ⟨#[98, 111, 120]⟩, .string ⟨#[115]⟩, .int .i64 2, .bool false, .string ⟨#[]⟩, .slice A 1 c], .int .i64 2, .string ⟨#[115]⟩] V fun e w' => e = .returned (.tuple #[.agg #[.string ⟨#[98, 111, 120]⟩, .string ⟨#[115]⟩, .int .i64 2, .bool false, .string ⟨#[]⟩, .slice A 1 c], .int .i64 2, .int .i64 0]) ∧ Below V.heap.size V w' := by
  have HS := Lib.hid (fun W : World => client_same.calls ⟨#[115]⟩ ⟨#[115]⟩ true W (by kernel_rfl))
  have HB := Lib.hid (Below.refl V.heap.size V)
  go_enter Tryz.func70, Tryz.ntmps70
  go_upto_block 2 with (first | ((with_reducible refine gate_dst (N := 3) rfl ?_); refine box_event ?hg (N := 3) ?hd (cs := #[.string ⟨#[98, 111, 120]⟩, .string ⟨#[115]⟩, .int .i64 2, .bool false, .string ⟨#[]⟩, .slice A 1 c]) (t := 40) ?hr ?_; (case hd => rfl); (case hg => rfl); (case hr => first | (go_simp; done) | (go_simp; rfl)); intro p hg w_p hbox hb; have n0_ := Lib.hid (below_step (w := V) (by repeat (first | (with_reducible first | exact HB.out | apply below_alloc | apply pw_below_drewN | apply below_drew1) | exact HB.out)) hb); have BKp := Lib.hid hbox; have GEp := Lib.hid ((by rw [hg]; exact below_size (by repeat (first | (with_reducible first | exact HB.out | apply below_alloc | apply pw_below_drewN | apply below_drew1) | exact HB.out))) : V.heap.size ≤ p); (try have BKO := Lib.hid (blk_below (by (with_reducible repeat (first | refine blk_drewN ?_ _ | refine blk_drew ?_ | refine blk_alloc ?_ _)); exact BKq.out) hb)); clear HB hbox hb hg; have HB := n0_; clear n0_) | ((with_reducible refine gate_dst (N := 6) rfl ?_); refine box_event ?hg (N := 6) ?hd (cs := #[.string ⟨#[]⟩, .string ⟨#[]⟩, .int .i64 0, .bool false, .string ⟨#[]⟩, .slice none 0 0]) (t := 40) ?hr ?_; (case hd => rfl); (case hg => rfl); (case hr => first | (go_simp; done) | (go_simp; rfl)); intro q hg w_q hbox hb; have n0_ := Lib.hid (below_step (w := V) (by repeat (first | (with_reducible first | exact HB.out | apply below_alloc | apply pw_below_drewN | apply below_drew1) | exact HB.out)) hb); have BKq := Lib.hid hbox; have GEq := Lib.hid ((by rw [hg]; exact below_size (by repeat (first | (with_reducible first | exact HB.out | apply below_alloc | apply pw_below_drewN | apply below_drew1) | exact HB.out))) : V.heap.size ≤ q); (try have BKO := Lib.hid (blk_below (by (with_reducible repeat (first | refine blk_drewN ?_ _ | refine blk_drew ?_ | refine blk_alloc ?_ _)); exact BKp.out) hb)); clear HB hbox hb hg; have HB := n0_; clear n0_))
  have BP := BKO
  have BQ := BKq
  clear BKp BKO BKq
  have c30 := (blk_cell BP.out 0).trans rfl; have f30 := blk_frozen BP.out 0; have c60 := (blk_cell BQ.out 0).trans rfl; have f60 := blk_frozen BQ.out 0; have c31 := (blk_cell BP.out 1).trans rfl; have f31 := blk_frozen BP.out 1; have c61 := (blk_cell BQ.out 1).trans rfl; have f61 := blk_frozen BQ.out 1; have c32 := (blk_cell BP.out 2).trans rfl; have f32 := blk_frozen BP.out 2; have c62 := (blk_cell BQ.out 2).trans rfl; have f62 := blk_frozen BQ.out 2; have c33 := (blk_cell BP.out 3).trans rfl; have f33 := blk_frozen BP.out 3; have c63 := (blk_cell BQ.out 3).trans rfl; have f63 := blk_frozen BQ.out 3; have c34 := (blk_cell BP.out 4).trans rfl; have f34 := blk_frozen BP.out 4; have c64 := (blk_cell BQ.out 4).trans rfl; have f64 := blk_frozen BQ.out 4; have c35 := (blk_cell BP.out 5).trans rfl; have f35 := blk_frozen BP.out 5; have c65 := (blk_cell BQ.out 5).trans rfl; have f65 := blk_frozen BQ.out 5
  go_wp2_with (go_at_call 109; (with_reducible refine (HS.out _).mono ?_); rintro e w5 ⟨rfl, hb⟩; have n1_ := Lib.hid (blk_below BP.out hb); have n2_ := Lib.hid (blk_below BQ.out hb); have n3_ := Lib.hid (below_step HB.out hb); clear hb BP BQ HB; clear c30 f30 c60 f60 c31 f31 c61 f61 c32 f32 c62 f62 c33 f33 c63 f63 c34 f34 c64 f64 c35 f35 c65 f65; have BP := n1_; have BQ := n2_; have HB := n3_; clear n1_ n2_ n3_; have c30 := (blk_cell BP.out 0).trans rfl; have f30 := blk_frozen BP.out 0; have c60 := (blk_cell BQ.out 0).trans rfl; have f60 := blk_frozen BQ.out 0; have c31 := (blk_cell BP.out 1).trans rfl; have f31 := blk_frozen BP.out 1; have c61 := (blk_cell BQ.out 1).trans rfl; have f61 := blk_frozen BQ.out 1; have c32 := (blk_cell BP.out 2).trans rfl; have f32 := blk_frozen BP.out 2; have c62 := (blk_cell BQ.out 2).trans rfl; have f62 := blk_frozen BQ.out 2; have c33 := (blk_cell BP.out 3).trans rfl; have f33 := blk_frozen BP.out 3; have c63 := (blk_cell BQ.out 3).trans rfl; have f63 := blk_frozen BQ.out 3; have c34 := (blk_cell BP.out 4).trans rfl; have f34 := blk_frozen BP.out 4; have c64 := (blk_cell BQ.out 4).trans rfl; have f64 := blk_frozen BQ.out 4; have c35 := (blk_cell BP.out 5).trans rfl; have f35 := blk_frozen BP.out 5; have c65 := (blk_cell BQ.out 5).trans rfl; have f65 := blk_frozen BQ.out 5)
  refine bodyPost_ret (results_ctt rfl _ _ q 40 #[.string ⟨#[98, 111, 120]⟩, .string ⟨#[115]⟩, .int .i64 2, .bool false, .string ⟨#[]⟩, .slice A 1 c] (0, 0) _ rfl (put_six BQ.out _ _ _ _ _ _) Tryz.underlying40 rfl (by kernel_rfl)) rfl ?_
  exact ⟨rfl, below_six HB.out GEq.out _ _ _ _ _ _⟩
set_option maxRecDepth 100000 in
set_option maxHeartbeats 1000000 in
theorem proven_no (A : Option Addr) (c : Nat) (V : World) : Calls Tryz.prog 70 #[.agg #[.string ⟨#[98, 111, 120]⟩, .string ⟨#[115]⟩, .int .i64 2, .bool false, .string ⟨#[]⟩, .slice A 1 c], .int .i64 2, .string ⟨#[]⟩] V fun e w' => e = .returned (.tuple #[.agg #[.string ⟨#[]⟩, .string ⟨#[]⟩, .int .i64 0, .bool false, .string ⟨#[]⟩, .slice none 0 0], .int .i64 0, .int .i64 112]) ∧ Below V.heap.size V w' := by
  have HS := Lib.hid (fun W : World => client_same.calls ⟨#[115]⟩ ⟨#[]⟩ false W (by kernel_rfl))
  have HB := Lib.hid (Below.refl V.heap.size V)
  go_enter Tryz.func70, Tryz.ntmps70
  go_upto_block 2 with (first | ((with_reducible refine gate_dst (N := 3) rfl ?_); refine box_event ?hg (N := 3) ?hd (cs := #[.string ⟨#[98, 111, 120]⟩, .string ⟨#[115]⟩, .int .i64 2, .bool false, .string ⟨#[]⟩, .slice A 1 c]) (t := 40) ?hr ?_; (case hd => rfl); (case hg => rfl); (case hr => first | (go_simp; done) | (go_simp; rfl)); intro p hg w_p hbox hb; have n0_ := Lib.hid (below_step (w := V) (by repeat (first | (with_reducible first | exact HB.out | apply below_alloc | apply pw_below_drewN | apply below_drew1) | exact HB.out)) hb); have BKp := Lib.hid hbox; have GEp := Lib.hid ((by rw [hg]; exact below_size (by repeat (first | (with_reducible first | exact HB.out | apply below_alloc | apply pw_below_drewN | apply below_drew1) | exact HB.out))) : V.heap.size ≤ p); (try have BKO := Lib.hid (blk_below (by (with_reducible repeat (first | refine blk_drewN ?_ _ | refine blk_drew ?_ | refine blk_alloc ?_ _)); exact BKq.out) hb)); clear HB hbox hb hg; have HB := n0_; clear n0_) | ((with_reducible refine gate_dst (N := 6) rfl ?_); refine box_event ?hg (N := 6) ?hd (cs := #[.string ⟨#[]⟩, .string ⟨#[]⟩, .int .i64 0, .bool false, .string ⟨#[]⟩, .slice none 0 0]) (t := 40) ?hr ?_; (case hd => rfl); (case hg => rfl); (case hr => first | (go_simp; done) | (go_simp; rfl)); intro q hg w_q hbox hb; have n0_ := Lib.hid (below_step (w := V) (by repeat (first | (with_reducible first | exact HB.out | apply below_alloc | apply pw_below_drewN | apply below_drew1) | exact HB.out)) hb); have BKq := Lib.hid hbox; have GEq := Lib.hid ((by rw [hg]; exact below_size (by repeat (first | (with_reducible first | exact HB.out | apply below_alloc | apply pw_below_drewN | apply below_drew1) | exact HB.out))) : V.heap.size ≤ q); (try have BKO := Lib.hid (blk_below (by (with_reducible repeat (first | refine blk_drewN ?_ _ | refine blk_drew ?_ | refine blk_alloc ?_ _)); exact BKp.out) hb)); clear HB hbox hb hg; have HB := n0_; clear n0_))
  have BP := BKO
  have BQ := BKq
  clear BKp BKO BKq
  have c30 := (blk_cell BP.out 0).trans rfl; have f30 := blk_frozen BP.out 0; have c60 := (blk_cell BQ.out 0).trans rfl; have f60 := blk_frozen BQ.out 0; have c31 := (blk_cell BP.out 1).trans rfl; have f31 := blk_frozen BP.out 1; have c61 := (blk_cell BQ.out 1).trans rfl; have f61 := blk_frozen BQ.out 1; have c32 := (blk_cell BP.out 2).trans rfl; have f32 := blk_frozen BP.out 2; have c62 := (blk_cell BQ.out 2).trans rfl; have f62 := blk_frozen BQ.out 2; have c33 := (blk_cell BP.out 3).trans rfl; have f33 := blk_frozen BP.out 3; have c63 := (blk_cell BQ.out 3).trans rfl; have f63 := blk_frozen BQ.out 3; have c34 := (blk_cell BP.out 4).trans rfl; have f34 := blk_frozen BP.out 4; have c64 := (blk_cell BQ.out 4).trans rfl; have f64 := blk_frozen BQ.out 4; have c35 := (blk_cell BP.out 5).trans rfl; have f35 := blk_frozen BP.out 5; have c65 := (blk_cell BQ.out 5).trans rfl; have f65 := blk_frozen BQ.out 5
  go_wp2_with (go_at_call 109; (with_reducible refine (HS.out _).mono ?_); rintro e w5 ⟨rfl, hb⟩; have n1_ := Lib.hid (blk_below BP.out hb); have n2_ := Lib.hid (blk_below BQ.out hb); have n3_ := Lib.hid (below_step HB.out hb); clear hb BP BQ HB; clear c30 f30 c60 f60 c31 f31 c61 f61 c32 f32 c62 f62 c33 f33 c63 f63 c34 f34 c64 f64 c35 f35 c65 f65; have BP := n1_; have BQ := n2_; have HB := n3_; clear n1_ n2_ n3_; have c30 := (blk_cell BP.out 0).trans rfl; have f30 := blk_frozen BP.out 0; have c60 := (blk_cell BQ.out 0).trans rfl; have f60 := blk_frozen BQ.out 0; have c31 := (blk_cell BP.out 1).trans rfl; have f31 := blk_frozen BP.out 1; have c61 := (blk_cell BQ.out 1).trans rfl; have f61 := blk_frozen BQ.out 1; have c32 := (blk_cell BP.out 2).trans rfl; have f32 := blk_frozen BP.out 2; have c62 := (blk_cell BQ.out 2).trans rfl; have f62 := blk_frozen BQ.out 2; have c33 := (blk_cell BP.out 3).trans rfl; have f33 := blk_frozen BP.out 3; have c63 := (blk_cell BQ.out 3).trans rfl; have f63 := blk_frozen BQ.out 3; have c34 := (blk_cell BP.out 4).trans rfl; have f34 := blk_frozen BP.out 4; have c64 := (blk_cell BQ.out 4).trans rfl; have f64 := blk_frozen BQ.out 4; have c35 := (blk_cell BP.out 5).trans rfl; have f35 := blk_frozen BP.out 5; have c65 := (blk_cell BQ.out 5).trans rfl; have f65 := blk_frozen BQ.out 5)
  refine bodyPost_ret (results_ctt rfl _ _ q 40 #[.string ⟨#[]⟩, .string ⟨#[]⟩, .int .i64 0, .bool false, .string ⟨#[]⟩, .slice none 0 0] (0, 0) _ rfl (put_six BQ.out _ _ _ _ _ _) Tryz.underlying40 rfl (by kernel_rfl)) rfl ?_
  exact ⟨rfl, below_six HB.out GEq.out _ _ _ _ _ _⟩
def liveL : List S40 := [⟨⟨#[98, 111, 120]⟩, ⟨#[115]⟩, 2, false, ⟨#[]⟩, [⟨#[112, 97, 121]⟩]⟩, ⟨⟨#[116, 118]⟩, ⟨#[]⟩, 1, false, ⟨#[]⟩, []⟩]
def liveP1 : List S68 := [⟨⟨#[99, 108, 105, 101, 110, 116, 95, 105, 100]⟩, ⟨#[98, 111, 120]⟩⟩]
def liveP2 : List S68 := [⟨⟨#[99, 108, 105, 101, 110, 116, 95, 105, 100]⟩, ⟨#[98, 111, 120]⟩⟩, ⟨⟨#[99, 108, 105, 101, 110, 116, 95, 115, 101, 99, 114, 101, 116]⟩, ⟨#[115]⟩⟩]
theorem six_far {w : World} {g k : Nat} (h : k ≠ g) (b0 b1 b2 b3 b4 b5 : Value) :
    ((((((w.setCell ⟨g, 0, none⟩ b0).setCell ⟨g, 1, none⟩ b1).setCell ⟨g, 2, none⟩ b2).setCell ⟨g, 3, none⟩ b3).setCell ⟨g, 4, none⟩ b4).setCell ⟨g, 5, none⟩ b5).heap[k]? = w.heap[k]? :=
  (Below.heap_setCell _ _ _ _ h).trans <| (Below.heap_setCell _ _ _ _ h).trans <| (Below.heap_setCell _ _ _ _ h).trans <| (Below.heap_setCell _ _ _ _ h).trans <| (Below.heap_setCell _ _ _ _ h).trans (Below.heap_setCell _ _ _ _ h)
theorem cS_one {w : World} {g : Nat} {cs : Array Value} {t : TypeId} {x : ByteArray} (h : w.heap[g]? = some (.cells cs t (0, 0))) (h0 : cs[0]? = some (.string x)) : Kd.C Kd.string w (some ⟨g, 0, none⟩) 1 [x] := by
  refine ⟨rfl, by omega, fun _ => ⟨_, rfl, fun j p hj => ?_⟩⟩
  rcases j with _ | j
  · obtain rfl : x = p := Option.some.inj hj
    refine ⟨[.string x], rfl, rfl, fun i u hu => ?_⟩
    rw [← hu]
    rcases i with _ | i
    · exact (blk_cell h 0).trans h0
    · cases hu
  · cases hj
set_option maxRecDepth 100000 in
set_option maxHeartbeats 1000000 in
theorem auth_yes (V : World) (g s c : Nat) (h1 : Kd.C k40 V (some ⟨g, 0, none⟩) 2 liveL) (h2 : Kd.C k68 V (some ⟨s, 0, none⟩) 2 liveP2) (h3 : 2 ≤ c) : Calls Tryz.prog 34 #[.slice (some ⟨g, 0, none⟩) 2 c, .string ⟨#[]⟩, .slice (some ⟨s, 0, none⟩) 2 2] V fun e w' => ∃ (A : Option Addr) (c5 : Nat), e = .returned (.tuple #[.agg #[.string ⟨#[98, 111, 120]⟩, .string ⟨#[115]⟩, .int .i64 2, .bool false, .string ⟨#[]⟩, .slice A 1 c5], .int .i64 2, .int .i64 0]) ∧ 1 ≤ c5 ∧ Kd.C Kd.string w' A 1 [⟨#[112, 97, 121]⟩] ∧ Below V.heap.size V w' := by
  have HO1 := Lib.hid (fun (W : World) (h : Kd.C k68 W (some ⟨s, 0, none⟩) 2 liveP2) => show Calls Tryz.prog 69 #[.slice (some ⟨s, 0, none⟩) 2 2, .string ⟨#[99, 108, 105, 101, 110, 116, 95, 105, 100]⟩] W (fun e w' => e = .returned (.tuple #[.string ⟨#[98, 111, 120]⟩, .bool true, .int .i64 0]) ∧ Below W.heap.size W w') from urlform_One.calls 400 (some ⟨s, 0, none⟩) 2 liveP2 ⟨#[99, 108, 105, 101, 110, 116, 95, 105, 100]⟩ _ _ _ W h (Nat.le_refl _) (by kernel_rfl))
  have HO2 := Lib.hid (fun (W : World) (h : Kd.C k68 W (some ⟨s, 0, none⟩) 2 liveP2) => show Calls Tryz.prog 69 #[.slice (some ⟨s, 0, none⟩) 2 2, .string ⟨#[99, 108, 105, 101, 110, 116, 95, 115, 101, 99, 114, 101, 116]⟩] W (fun e w' => e = .returned (.tuple #[.string ⟨#[115]⟩, .bool true, .int .i64 0]) ∧ Below W.heap.size W w') from urlform_One.calls 400 (some ⟨s, 0, none⟩) 2 liveP2 ⟨#[99, 108, 105, 101, 110, 116, 95, 115, 101, 99, 114, 101, 116]⟩ _ _ _ W h (Nat.le_refl _) (by kernel_rfl))
  have HF := Lib.hid (fun (W : World) (h : Kd.C k40 W (some ⟨g, 0, none⟩) 2 liveL) => show Calls Tryz.prog 29 #[.slice (some ⟨g, 0, none⟩) 2 c, .string ⟨#[98, 111, 120]⟩] W (fun e w' => ∃ (g2 c5 : Nat) (cs : Array Value), e = .returned (.tuple #[.agg #[.string ⟨#[98, 111, 120]⟩, .string ⟨#[115]⟩, .int .i64 2, .bool false, .string ⟨#[]⟩, .slice (some ⟨g2, 0, none⟩) 1 c5], .bool true]) ∧ 1 ≤ c5 ∧ W.heap.size ≤ g2 ∧ w'.heap[g2]? = some (.cells cs 9 (0, 0)) ∧ cs[0]? = some (.string ⟨#[112, 97, 121]⟩) ∧ Below W.heap.size W w') from by
    refine (client_Find.calls 400 (some ⟨g, 0, none⟩) c liveL ⟨#[98, 111, 120]⟩ ⟨#[98, 111, 120]⟩ ⟨#[115]⟩ 2 false ⟨#[]⟩ [⟨#[112, 97, 121]⟩] true W h h3 (by kernel_rfl)).mono ?_
    rintro e w' ⟨v5, rfl, hR, hb⟩
    obtain ⟨g2, c5, rfl, hg2, _, cs, hcs⟩ := Kd.R_form hR (by decide)
    obtain ⟨_, hl, hC⟩ := Kd.R_reads' hR
    obtain ⟨ad, cc, hA, _, hK, hcell⟩ := Kd.C_get hC (⟨#[]⟩ : ByteArray) 0 (by omega) (by decide)
    obtain rfl : (⟨g2, 0, none⟩ : Addr) = ad := Option.some.inj hA
    have hK' : cc = [.string ⟨#[112, 97, 121]⟩] := hK
    subst hK'
    exact ⟨g2, c5, cs, rfl, hl, hg2, hcs, (blk_cell hcs 0).symm.trans (hcell 0 _ rfl), hb⟩)
  go_enter Tryz.func34, Tryz.ntmps34
  go_upto_region 1 with ((with_reducible refine gate_dst (N := 6) rfl ?_); refine box_event ?hg (N := 6) ?hd (cs := #[.string ⟨#[]⟩, .string ⟨#[]⟩, .int .i64 0, .bool false, .string ⟨#[]⟩, .slice none 0 0]) (t := 40) ?hr ?_; (case hd => rfl); (case hg => rfl); (case hr => first | (go_simp; done) | (go_simp; rfl)); intro q hg w_q hbox hb; have BQ := Lib.hid hbox; have GE := Lib.hid ((by rw [hg]; exact Nat.le_refl _) : V.heap.size ≤ q); have HB := Lib.hid hb; have HC := Lib.hid (Kd.C_below h1 hb); have HD := Lib.hid (Kd.C_below h2 hb); clear hbox hg hb h1 h2)
  go_wp2_with (first | (go_at_call 69; (with_reducible refine (HO1.out _ HD.out).mono ?_); rintro e w1 ⟨rfl, hb⟩; have n1_ := Lib.hid (below_step HB.out hb); have n2_ := Lib.hid (blk_below BQ.out hb); have n3_ := Lib.hid (Kd.C_below HC.out hb); have n4_ := Lib.hid (Kd.C_below HD.out hb); clear HB BQ HC HD; have HB := n1_; have BQ := n2_; have HC := n3_; have HD := n4_; clear n1_ n2_ n3_ n4_ hb) | (go_at_call 69; (with_reducible refine (HO2.out _ HD.out).mono ?_); rintro e w2 ⟨rfl, hb⟩; have n1_ := Lib.hid (below_step HB.out hb); have n2_ := Lib.hid (blk_below BQ.out hb); have n3_ := Lib.hid (Kd.C_below HC.out hb); have n4_ := Lib.hid (Kd.C_below HD.out hb); clear HB BQ HC HD; have HB := n1_; have BQ := n2_; have HC := n3_; have HD := n4_; clear n1_ n2_ n3_ n4_ hb) | (go_at_call 29; (with_reducible refine (HF.out _ HC.out).mono ?_); rintro e w3 ⟨g2, c5, cs, rfl, hc5, hg2, hcs, h0, hb⟩; have NE := Lib.hid ((by have := blk_lt BQ.out; omega) : g2 ≠ q); have H5 := Lib.hid hc5; have H0 := Lib.hid h0; have BF := Lib.hid hcs; clear hc5 hg2 hcs h0; have n1_ := Lib.hid (below_step HB.out hb); have n2_ := Lib.hid (blk_below BQ.out hb); have n3_ := Lib.hid (Kd.C_below HC.out hb); have n4_ := Lib.hid (Kd.C_below HD.out hb); clear HB BQ HC HD; have HB := n1_; have BQ := n2_; have HC := n3_; have HD := n4_; clear n1_ n2_ n3_ n4_ hb) | (go_at_call 70; (with_reducible refine (proven_yes _ _ _).mono ?_); rintro e w4 ⟨rfl, hb⟩; have n1_ := Lib.hid (below_step (below_alloc HB.out _) hb); have n2_ := Lib.hid (blk_below (blk_alloc BQ.out _) hb); have n5_ := Lib.hid (blk_below (blk_alloc BF.out _) hb); clear HB BQ BF HC HD hb; have HB := n1_; have BQ := n2_; have BF := n5_; clear n1_ n2_ n5_; have c60 := (blk_cell BQ.out 0).trans rfl; have f60 := blk_frozen BQ.out 0; have c61 := (blk_cell BQ.out 1).trans rfl; have f61 := blk_frozen BQ.out 1; have c62 := (blk_cell BQ.out 2).trans rfl; have f62 := blk_frozen BQ.out 2; have c63 := (blk_cell BQ.out 3).trans rfl; have f63 := blk_frozen BQ.out 3; have c64 := (blk_cell BQ.out 4).trans rfl; have f64 := blk_frozen BQ.out 4; have c65 := (blk_cell BQ.out 5).trans rfl; have f65 := blk_frozen BQ.out 5))
  refine bodyPost_ret (results_ctt rfl _ _ q 40 #[.string ⟨#[98, 111, 120]⟩, .string ⟨#[115]⟩, .int .i64 2, .bool false, .string ⟨#[]⟩, .slice (some ⟨g2, 0, none⟩) 1 c5] (0, 0) _ rfl (put_six BQ.out _ _ _ _ _ _) Tryz.underlying40 rfl (by kernel_rfl)) rfl ?_
  exact ⟨some ⟨g2, 0, none⟩, c5, rfl, H5.out, cS_one ((six_far NE.out _ _ _ _ _ _).trans BF.out) H0.out, below_six HB.out GE.out _ _ _ _ _ _⟩
set_option maxRecDepth 100000 in
set_option maxHeartbeats 1000000 in
theorem auth_no (V : World) (g s c : Nat) (h1 : Kd.C k40 V (some ⟨g, 0, none⟩) 2 liveL) (h2 : Kd.C k68 V (some ⟨s, 0, none⟩) 1 liveP1) (h3 : 2 ≤ c) : Calls Tryz.prog 34 #[.slice (some ⟨g, 0, none⟩) 2 c, .string ⟨#[]⟩, .slice (some ⟨s, 0, none⟩) 1 1] V fun e w' => e = .returned (.tuple #[.agg #[.string ⟨#[]⟩, .string ⟨#[]⟩, .int .i64 0, .bool false, .string ⟨#[]⟩, .slice none 0 0], .int .i64 0, .int .i64 112]) ∧ Below V.heap.size V w' := by
  have HO1 := Lib.hid (fun (W : World) (h : Kd.C k68 W (some ⟨s, 0, none⟩) 1 liveP1) => show Calls Tryz.prog 69 #[.slice (some ⟨s, 0, none⟩) 1 1, .string ⟨#[99, 108, 105, 101, 110, 116, 95, 105, 100]⟩] W (fun e w' => e = .returned (.tuple #[.string ⟨#[98, 111, 120]⟩, .bool true, .int .i64 0]) ∧ Below W.heap.size W w') from urlform_One.calls 400 (some ⟨s, 0, none⟩) 1 liveP1 ⟨#[99, 108, 105, 101, 110, 116, 95, 105, 100]⟩ _ _ _ W h (Nat.le_refl _) (by kernel_rfl))
  have HO2 := Lib.hid (fun (W : World) (h : Kd.C k68 W (some ⟨s, 0, none⟩) 1 liveP1) => show Calls Tryz.prog 69 #[.slice (some ⟨s, 0, none⟩) 1 1, .string ⟨#[99, 108, 105, 101, 110, 116, 95, 115, 101, 99, 114, 101, 116]⟩] W (fun e w' => e = .returned (.tuple #[.string ⟨#[]⟩, .bool false, .int .i64 0]) ∧ Below W.heap.size W w') from urlform_One.calls 400 (some ⟨s, 0, none⟩) 1 liveP1 ⟨#[99, 108, 105, 101, 110, 116, 95, 115, 101, 99, 114, 101, 116]⟩ _ _ _ W h (Nat.le_refl _) (by kernel_rfl))
  have HF := Lib.hid (fun (W : World) (h : Kd.C k40 W (some ⟨g, 0, none⟩) 2 liveL) => show Calls Tryz.prog 29 #[.slice (some ⟨g, 0, none⟩) 2 c, .string ⟨#[98, 111, 120]⟩] W (fun e w' => ∃ (g2 c5 : Nat) (cs : Array Value), e = .returned (.tuple #[.agg #[.string ⟨#[98, 111, 120]⟩, .string ⟨#[115]⟩, .int .i64 2, .bool false, .string ⟨#[]⟩, .slice (some ⟨g2, 0, none⟩) 1 c5], .bool true]) ∧ 1 ≤ c5 ∧ W.heap.size ≤ g2 ∧ w'.heap[g2]? = some (.cells cs 9 (0, 0)) ∧ cs[0]? = some (.string ⟨#[112, 97, 121]⟩) ∧ Below W.heap.size W w') from by
    refine (client_Find.calls 400 (some ⟨g, 0, none⟩) c liveL ⟨#[98, 111, 120]⟩ ⟨#[98, 111, 120]⟩ ⟨#[115]⟩ 2 false ⟨#[]⟩ [⟨#[112, 97, 121]⟩] true W h h3 (by kernel_rfl)).mono ?_
    rintro e w' ⟨v5, rfl, hR, hb⟩
    obtain ⟨g2, c5, rfl, hg2, _, cs, hcs⟩ := Kd.R_form hR (by decide)
    obtain ⟨_, hl, hC⟩ := Kd.R_reads' hR
    obtain ⟨ad, cc, hA, _, hK, hcell⟩ := Kd.C_get hC (⟨#[]⟩ : ByteArray) 0 (by omega) (by decide)
    obtain rfl : (⟨g2, 0, none⟩ : Addr) = ad := Option.some.inj hA
    have hK' : cc = [.string ⟨#[112, 97, 121]⟩] := hK
    subst hK'
    exact ⟨g2, c5, cs, rfl, hl, hg2, hcs, (blk_cell hcs 0).symm.trans (hcell 0 _ rfl), hb⟩)
  go_enter Tryz.func34, Tryz.ntmps34
  go_upto_region 1 with ((with_reducible refine gate_dst (N := 6) rfl ?_); refine box_event ?hg (N := 6) ?hd (cs := #[.string ⟨#[]⟩, .string ⟨#[]⟩, .int .i64 0, .bool false, .string ⟨#[]⟩, .slice none 0 0]) (t := 40) ?hr ?_; (case hd => rfl); (case hg => rfl); (case hr => first | (go_simp; done) | (go_simp; rfl)); intro q hg w_q hbox hb; have BQ := Lib.hid hbox; have GE := Lib.hid ((by rw [hg]; exact Nat.le_refl _) : V.heap.size ≤ q); have HB := Lib.hid hb; have HC := Lib.hid (Kd.C_below h1 hb); have HD := Lib.hid (Kd.C_below h2 hb); clear hbox hg hb h1 h2)
  go_wp2_with (first | (go_at_call 69; (with_reducible refine (HO1.out _ HD.out).mono ?_); rintro e w1 ⟨rfl, hb⟩; have n1_ := Lib.hid (below_step HB.out hb); have n2_ := Lib.hid (blk_below BQ.out hb); have n3_ := Lib.hid (Kd.C_below HC.out hb); have n4_ := Lib.hid (Kd.C_below HD.out hb); clear HB BQ HC HD; have HB := n1_; have BQ := n2_; have HC := n3_; have HD := n4_; clear n1_ n2_ n3_ n4_ hb) | (go_at_call 69; (with_reducible refine (HO2.out _ HD.out).mono ?_); rintro e w2 ⟨rfl, hb⟩; have n1_ := Lib.hid (below_step HB.out hb); have n2_ := Lib.hid (blk_below BQ.out hb); have n3_ := Lib.hid (Kd.C_below HC.out hb); have n4_ := Lib.hid (Kd.C_below HD.out hb); clear HB BQ HC HD; have HB := n1_; have BQ := n2_; have HC := n3_; have HD := n4_; clear n1_ n2_ n3_ n4_ hb) | (go_at_call 29; (with_reducible refine (HF.out _ HC.out).mono ?_); rintro e w3 ⟨g2, c5, cs, rfl, hc5, hg2, hcs, h0, hb⟩; have NE := Lib.hid ((by have := blk_lt BQ.out; omega) : g2 ≠ q); have H5 := Lib.hid hc5; have H0 := Lib.hid h0; have BF := Lib.hid hcs; clear hc5 hg2 hcs h0; have n1_ := Lib.hid (below_step HB.out hb); have n2_ := Lib.hid (blk_below BQ.out hb); have n3_ := Lib.hid (Kd.C_below HC.out hb); have n4_ := Lib.hid (Kd.C_below HD.out hb); clear HB BQ HC HD; have HB := n1_; have BQ := n2_; have HC := n3_; have HD := n4_; clear n1_ n2_ n3_ n4_ hb) | (go_at_call 70; (with_reducible refine (proven_no _ _ _).mono ?_); rintro e w4 ⟨rfl, hb⟩; have n1_ := Lib.hid (below_step (below_alloc HB.out _) hb); have n2_ := Lib.hid (blk_below (blk_alloc BQ.out _) hb); have n5_ := Lib.hid (blk_below (blk_alloc BF.out _) hb); clear HB BQ BF HC HD hb; have HB := n1_; have BQ := n2_; have BF := n5_; clear n1_ n2_ n5_; have c60 := (blk_cell BQ.out 0).trans rfl; have f60 := blk_frozen BQ.out 0; have c61 := (blk_cell BQ.out 1).trans rfl; have f61 := blk_frozen BQ.out 1; have c62 := (blk_cell BQ.out 2).trans rfl; have f62 := blk_frozen BQ.out 2; have c63 := (blk_cell BQ.out 3).trans rfl; have f63 := blk_frozen BQ.out 3; have c64 := (blk_cell BQ.out 4).trans rfl; have f64 := blk_frozen BQ.out 4; have c65 := (blk_cell BQ.out 5).trans rfl; have f65 := blk_frozen BQ.out 5))
  refine bodyPost_ret (results_ctt rfl _ _ q 40 #[.string ⟨#[]⟩, .string ⟨#[]⟩, .int .i64 0, .bool false, .string ⟨#[]⟩, .slice none 0 0] (0, 0) _ rfl (put_six BQ.out _ _ _ _ _ _) Tryz.underlying40 rfl (by kernel_rfl)) rfl ?_
  exact ⟨rfl, below_six HB.out GE.out _ _ _ _ _ _⟩
end Go.Proofs.YtmimipgmhgalaaaGreatDoor.PAll
end
section
namespace Go.Proofs.YtmimipgmhgalaaaGreatDoor.PAll
open Go.RowKit Go.Proofs.YtmimipgmhgalaaaGreatDoorW.PrintWords Go.Proofs.YtmimipgmhgalaaaGreatDoorW.PrintLast Go.Proofs.YtmimipgmhgalaaaGreatDoorW.PrintMore
set_option linter.unusedVariables false
set_option linter.unusedSimpArgs false
def meantS (l5 : List ByteArray) (a1 : ByteArray) (l : List ByteArray) : List ByteArray := if a1 = ⟨#[]⟩ then l5 else l
def client_Scope.f (k : Nat) (a0_0 a0_1 : ByteArray) (a0_2 : Int) (a0_3 : Bool) (a0_4 : ByteArray) (l0_5 : List ByteArray) (a1 : ByteArray) : Option (ByteArray × Int) :=
  (urlform_Scopes.f k a1).bind fun t => if t.2 = 0 then ((urlform_Within.f k (meantS l0_5 a1 t.1) l0_5).bind fun b => if b = true then ((strings_Join.f (meantS l0_5 a1 t.1) ⟨#[32]⟩).bind fun s => some (s, 0)) else some (⟨#[]⟩, 114)) else some (⟨#[]⟩, 114)
theorem emptyS_no {a : ByteArray} (h : ¬a = ⟨#[]⟩) : (a.toList == ([] : List UInt8)) = false := by
  refine beq_eq_false_iff_ne.mpr fun h1 => h ?_
  obtain ⟨⟨l⟩⟩ := a
  rw [Lib.toList_data] at h1
  exact congrArg (fun l => (⟨⟨l⟩⟩ : ByteArray)) h1
set_option maxRecDepth 100000 in
set_option maxHeartbeats 1000000 in
theorem client_Scope.calls (k : Nat) (a0_0 a0_1 : ByteArray) (a0_2 : Int) (a0_3 : Bool) (a0_4 : ByteArray) (A0_5 : Option Addr) (c0_5 : Nat) (l0_5 : List ByteArray) (a1 : ByteArray) (r1 : ByteArray) (r2 : Int) (w : World) (hr0_5 : Kd.C Kd.string w A0_5 l0_5.length l0_5) (hc0_5 : l0_5.length ≤ c0_5)
    (h : client_Scope.f k a0_0 a0_1 a0_2 a0_3 a0_4 l0_5 a1 = some (r1, r2)) :
    Calls Tryz.prog 37 #[.agg #[.string a0_0, .string a0_1, .int .i64 a0_2, .bool a0_3, .string a0_4, .slice A0_5 l0_5.length c0_5], .string a1] w fun e w' => e = .returned (.tuple #[.string r1, .int .i64 r2]) ∧ Below w.heap.size w w' := by
  unfold client_Scope.f at h
  obtain ⟨⟨ls, e⟩, hs, h⟩ := Option.bind_eq_some_iff.1 h
  obtain ⟨n5, hn5⟩ : ∃ n, n = l0_5.length := ⟨_, rfl⟩
  have HS := Lib.hid hs
  have hsc : ∀ V : World, Calls Tryz.prog 54 #[.string a1] V fun e' w' => ∃ (A' : Option Addr) (c' n' : Nat), e' = .returned (.tuple #[.slice A' n' c', .int .i64 e]) ∧ n' = ls.length ∧ n' ≤ c' ∧ Kd.C Kd.string w' A' ls.length ls ∧ Below V.heap.size V w' := fun V => by
    refine (urlform_Scopes.calls k a1 ls e V HS.out).mono fun e' w' ⟨v, he, hR, hb⟩ => ?_
    obtain ⟨A', c', hv, hl, hC⟩ := Kd.R_reads hR
    subst hv
    exact ⟨A', c', _, he, rfl, hl, hC, hb⟩
  have HSC := Lib.hid hsc
  clear hs hsc
  by_cases he : e = 0
  · subst he
    have h1 : (urlform_Within.f k (meantS l0_5 a1 ls) l0_5).bind (fun b => if b = true then ((strings_Join.f (meantS l0_5 a1 ls) ⟨#[32]⟩).bind fun s => some (s, 0)) else some (⟨#[]⟩, 114)) = some (r1, r2) := h
    obtain ⟨b, hb, h2⟩ := Option.bind_eq_some_iff.1 h1
    have hwi : ∀ (V : World) (A' : Option Addr) (c' n' : Nat), n' = (meantS l0_5 a1 ls).length → n' ≤ c' → Kd.C Kd.string V A' (meantS l0_5 a1 ls).length (meantS l0_5 a1 ls) → Below w.heap.size w V → Calls Tryz.prog 72 #[.slice A' n' c', .slice A0_5 n5 c0_5] V fun e' w' => e' = .returned (.bool b) ∧ Below V.heap.size V w' := fun V A' c' n' h3 h4 h5 h6 => by
      subst h3
      rw [hn5]
      exact (urlform_Within.calls k A' c' _ A0_5 c0_5 l0_5 b V h5 h4 (Kd.C_below hr0_5 h6) hc0_5 hb).mono fun e' w' ⟨h7, h8⟩ => ⟨h7, h8.below⟩
    have HWI := Lib.hid hwi
    rw [← hn5]
    by_cases ha : a1 = ⟨#[]⟩
    · have hm : meantS l0_5 a1 ls = l0_5 := if_pos ha
      rw [hm] at h2 HWI
      subst ha
      have HN5 := Lib.hid hn5; have HR := Lib.hid hr0_5; have HC := Lib.hid hc0_5
      have hc5 := Lib.hid (show n5 ≤ c0_5 by rw [hn5]; exact hc0_5)
      clear hn5 hr0_5 hc0_5 hm h h1 hwi hb
      cases b with
      | true =>
        obtain ⟨s, hs, h3⟩ := Option.bind_eq_some_iff.1 (show (strings_Join.f l0_5 ⟨#[32]⟩).bind (fun s => some (s, (0 : Int))) = some (r1, r2) from h2)
        obtain ⟨rfl, rfl⟩ := Prod.mk.inj (Option.some.inj h3)
        have HJ := Lib.hid (fun (V : World) (h5 : Kd.C Kd.string V A0_5 l0_5.length l0_5) => show Calls Tryz.prog 55 #[.slice A0_5 n5 c0_5, .string ⟨#[32]⟩] V (fun e w' => e = .returned (.string s) ∧ Below V.heap.size V w') by rw [HN5.out]; exact strings_Join.calls A0_5 c0_5 l0_5 ⟨#[32]⟩ s V h5 HC.out hs)
        clear h2 h3 hs
        go_enter Tryz.func37, Tryz.ntmps37
        go_wp2_with (first | ((with_reducible refine gate_dst (N := 2) rfl ?_); refine box_event ?hg (N := 2) ?hd (cs := #[.string a0_0, .string a0_1, .int .i64 a0_2, .bool a0_3, .string a0_4, .slice A0_5 n5 c0_5]) (t := 40) ?hr ?_; (case hd => rfl); (case hg => rfl); (case hr => first | (go_simp; done) | (go_simp; rfl)); intro gb hg w3 hbox hb; have GW := Lib.hid ((by rw [hg]; exact Nat.le_refl _) : w.heap.size ≤ gb); have HX := Lib.hid hbox; have HB := Lib.hid hb; clear hg hbox hb))
        refine (HSC.out _).mono ?_
        rintro e1 w4 ⟨A1, c1, n1, rfl, hn1, hl1, hC1, hb1⟩
        have BK := Lib.hid (blk_below (g := gb) (o := .cells #[.string a0_0, .string a0_1, .int .i64 a0_2, .bool a0_3, .string a0_4, .slice A0_5 n5 c0_5] 40 (0, 0)) HX.out hb1)
        have HB2 := Lib.hid (below_step HB.out hb1)
        have hcz := (blk_cell BK.out 5).trans rfl
        have hfz := blk_frozen BK.out 5
        have HN := Lib.hid hn1; have HL := Lib.hid hl1; have HC1 := Lib.hid hC1
        clear hn1 hl1 hC1 hb1 HX HB
        go_wp2_with (first | (go_at_call 72; (with_reducible refine (HWI.out _ _ _ _ HN5.out hc5.out (Kd.C_below HR.out HB2.out) HB2.out).mono ?_); rintro e2 w5 ⟨rfl, hb2⟩; have HB9 := Lib.hid (below_step HB2.out hb2); have HB5 := Lib.hid hb2; clear hb2) | (go_at_call 55; (with_reducible refine (HJ.out _ (Kd.C_below HR.out HB9.out)).mono ?_); rintro e3 w6 ⟨rfl, hb3⟩; have HB8 := HB9; clear HB9; have HB9 := Lib.hid (below_step HB8.out hb3); clear hb3))
        go_ret2
        exact ⟨by first | rfl | (simp [*]; done), by repeat (first | (with_reducible first | exact HB9.out | apply below_alloc | apply pw_below_drewN | apply below_drew1) | exact HB9.out)⟩
      | false =>
        obtain ⟨rfl, rfl⟩ := Prod.mk.inj (Option.some.inj (show some ((⟨#[]⟩ : ByteArray), (114 : Int)) = some (r1, r2) from h2))
        clear h2
        go_enter Tryz.func37, Tryz.ntmps37
        go_wp2_with (first | ((with_reducible refine gate_dst (N := 2) rfl ?_); refine box_event ?hg (N := 2) ?hd (cs := #[.string a0_0, .string a0_1, .int .i64 a0_2, .bool a0_3, .string a0_4, .slice A0_5 n5 c0_5]) (t := 40) ?hr ?_; (case hd => rfl); (case hg => rfl); (case hr => first | (go_simp; done) | (go_simp; rfl)); intro gb hg w3 hbox hb; have GW := Lib.hid ((by rw [hg]; exact Nat.le_refl _) : w.heap.size ≤ gb); have HX := Lib.hid hbox; have HB := Lib.hid hb; clear hg hbox hb))
        refine (HSC.out _).mono ?_
        rintro e1 w4 ⟨A1, c1, n1, rfl, hn1, hl1, hC1, hb1⟩
        have BK := Lib.hid (blk_below (g := gb) (o := .cells #[.string a0_0, .string a0_1, .int .i64 a0_2, .bool a0_3, .string a0_4, .slice A0_5 n5 c0_5] 40 (0, 0)) HX.out hb1)
        have HB2 := Lib.hid (below_step HB.out hb1)
        have hcz := (blk_cell BK.out 5).trans rfl
        have hfz := blk_frozen BK.out 5
        have HN := Lib.hid hn1; have HL := Lib.hid hl1; have HC1 := Lib.hid hC1
        clear hn1 hl1 hC1 hb1 HX HB
        go_wp2_with (first | (go_at_call 72; (with_reducible refine (HWI.out _ _ _ _ HN5.out hc5.out (Kd.C_below HR.out HB2.out) HB2.out).mono ?_); rintro e2 w5 ⟨rfl, hb2⟩; have HB9 := Lib.hid (below_step HB2.out hb2); have HB5 := Lib.hid hb2; clear hb2))
        go_ret2
        exact ⟨by first | rfl | (simp [*]; done), by repeat (first | (with_reducible first | exact HB9.out | apply below_alloc | apply pw_below_drewN | apply below_drew1) | exact HB9.out)⟩
    · have hm : meantS l0_5 a1 ls = ls := if_neg ha
      rw [hm] at h2 HWI
      have hne : (a1.toList == ([] : List UInt8)) = false := emptyS_no ha
      have HN5 := Lib.hid hn5; have HR := Lib.hid hr0_5; have HC := Lib.hid hc0_5
      clear hn5 hr0_5 hc0_5 hm h h1 hwi hb
      cases b with
      | true =>
        obtain ⟨s, hs, h3⟩ := Option.bind_eq_some_iff.1 (show (strings_Join.f ls ⟨#[32]⟩).bind (fun s => some (s, (0 : Int))) = some (r1, r2) from h2)
        obtain ⟨rfl, rfl⟩ := Prod.mk.inj (Option.some.inj h3)
        have HJ := Lib.hid (fun (V : World) (A' : Option Addr) (c' n' : Nat) (h3 : n' = ls.length) (h4 : n' ≤ c') (h5 : Kd.C Kd.string V A' ls.length ls) => show Calls Tryz.prog 55 #[.slice A' n' c', .string ⟨#[32]⟩] V (fun e w' => e = .returned (.string s) ∧ Below V.heap.size V w') by subst h3; exact strings_Join.calls A' c' ls ⟨#[32]⟩ s V h5 h4 hs)
        clear h2 h3 hs
        go_enter Tryz.func37, Tryz.ntmps37
        go_wp2_with (first | ((with_reducible refine gate_dst (N := 2) rfl ?_); refine box_event ?hg (N := 2) ?hd (cs := #[.string a0_0, .string a0_1, .int .i64 a0_2, .bool a0_3, .string a0_4, .slice A0_5 n5 c0_5]) (t := 40) ?hr ?_; (case hd => rfl); (case hg => rfl); (case hr => first | (go_simp; done) | (go_simp; rfl)); intro gb hg w3 hbox hb; have GW := Lib.hid ((by rw [hg]; exact Nat.le_refl _) : w.heap.size ≤ gb); have HX := Lib.hid hbox; have HB := Lib.hid hb; clear hg hbox hb))
        refine (HSC.out _).mono ?_
        rintro e1 w4 ⟨A1, c1, n1, rfl, hn1, hl1, hC1, hb1⟩
        have BK := Lib.hid (blk_below (g := gb) (o := .cells #[.string a0_0, .string a0_1, .int .i64 a0_2, .bool a0_3, .string a0_4, .slice A0_5 n5 c0_5] 40 (0, 0)) HX.out hb1)
        have HB2 := Lib.hid (below_step HB.out hb1)
        have hcz := (blk_cell BK.out 5).trans rfl
        have hfz := blk_frozen BK.out 5
        have HN := Lib.hid hn1; have HL := Lib.hid hl1; have HC1 := Lib.hid hC1
        clear hn1 hl1 hC1 hb1 HX HB
        go_wp2_with (first | (go_at_call 72; (with_reducible refine (HWI.out _ _ _ _ HN.out HL.out HC1.out HB2.out).mono ?_); rintro e2 w5 ⟨rfl, hb2⟩; have HB9 := Lib.hid (below_step HB2.out hb2); have HB5 := Lib.hid hb2; clear hb2) | (go_at_call 55; (with_reducible refine (HJ.out _ _ _ _ HN.out HL.out (Kd.C_below HC1.out HB5.out)).mono ?_); rintro e3 w6 ⟨rfl, hb3⟩; have HB8 := HB9; clear HB9; have HB9 := Lib.hid (below_step HB8.out hb3); clear hb3))
        go_ret2
        exact ⟨by first | rfl | (simp [*]; done), by repeat (first | (with_reducible first | exact HB9.out | apply below_alloc | apply pw_below_drewN | apply below_drew1) | exact HB9.out)⟩
      | false =>
        obtain ⟨rfl, rfl⟩ := Prod.mk.inj (Option.some.inj (show some ((⟨#[]⟩ : ByteArray), (114 : Int)) = some (r1, r2) from h2))
        clear h2
        go_enter Tryz.func37, Tryz.ntmps37
        go_wp2_with (first | ((with_reducible refine gate_dst (N := 2) rfl ?_); refine box_event ?hg (N := 2) ?hd (cs := #[.string a0_0, .string a0_1, .int .i64 a0_2, .bool a0_3, .string a0_4, .slice A0_5 n5 c0_5]) (t := 40) ?hr ?_; (case hd => rfl); (case hg => rfl); (case hr => first | (go_simp; done) | (go_simp; rfl)); intro gb hg w3 hbox hb; have GW := Lib.hid ((by rw [hg]; exact Nat.le_refl _) : w.heap.size ≤ gb); have HX := Lib.hid hbox; have HB := Lib.hid hb; clear hg hbox hb))
        refine (HSC.out _).mono ?_
        rintro e1 w4 ⟨A1, c1, n1, rfl, hn1, hl1, hC1, hb1⟩
        have BK := Lib.hid (blk_below (g := gb) (o := .cells #[.string a0_0, .string a0_1, .int .i64 a0_2, .bool a0_3, .string a0_4, .slice A0_5 n5 c0_5] 40 (0, 0)) HX.out hb1)
        have HB2 := Lib.hid (below_step HB.out hb1)
        have hcz := (blk_cell BK.out 5).trans rfl
        have hfz := blk_frozen BK.out 5
        have HN := Lib.hid hn1; have HL := Lib.hid hl1; have HC1 := Lib.hid hC1
        clear hn1 hl1 hC1 hb1 HX HB
        go_wp2_with (first | (go_at_call 72; (with_reducible refine (HWI.out _ _ _ _ HN.out HL.out HC1.out HB2.out).mono ?_); rintro e2 w5 ⟨rfl, hb2⟩; have HB9 := Lib.hid (below_step HB2.out hb2); have HB5 := Lib.hid hb2; clear hb2))
        go_ret2
        exact ⟨by first | rfl | (simp [*]; done), by repeat (first | (with_reducible first | exact HB9.out | apply below_alloc | apply pw_below_drewN | apply below_drew1) | exact HB9.out)⟩
  · obtain ⟨rfl, rfl⟩ := Prod.mk.inj (Option.some.inj (show some ((⟨#[]⟩ : ByteArray), (114 : Int)) = some (r1, r2) from by rw [← h]; exact (if_neg he).symm))
    have he1 : decide (e = 0) = false := decide_eq_false he
    have HN5 := Lib.hid hn5; have HR := Lib.hid hr0_5; have HC := Lib.hid hc0_5
    rw [← hn5]
    clear h hn5 hr0_5 hc0_5
    by_cases ha : a1 = ⟨#[]⟩
    · subst ha
      go_enter Tryz.func37, Tryz.ntmps37
      go_wp2_with (first | ((with_reducible refine gate_dst (N := 2) rfl ?_); refine box_event ?hg (N := 2) ?hd (cs := #[.string a0_0, .string a0_1, .int .i64 a0_2, .bool a0_3, .string a0_4, .slice A0_5 n5 c0_5]) (t := 40) ?hr ?_; (case hd => rfl); (case hg => rfl); (case hr => first | (go_simp; done) | (go_simp; rfl)); intro gb hg w3 hbox hb; have GW := Lib.hid ((by rw [hg]; exact Nat.le_refl _) : w.heap.size ≤ gb); have HX := Lib.hid hbox; have HB := Lib.hid hb; clear hg hbox hb))
      refine (HSC.out _).mono ?_
      rintro e1 w4 ⟨A1, c1, n1, rfl, hn1, hl1, hC1, hb1⟩
      have BK := Lib.hid (blk_below (g := gb) (o := .cells #[.string a0_0, .string a0_1, .int .i64 a0_2, .bool a0_3, .string a0_4, .slice A0_5 n5 c0_5] 40 (0, 0)) HX.out hb1)
      have HB2 := Lib.hid (below_step HB.out hb1)
      have hcz := (blk_cell BK.out 5).trans rfl
      have hfz := blk_frozen BK.out 5
      have HN := Lib.hid hn1; have HL := Lib.hid hl1; have HC1 := Lib.hid hC1
      clear hn1 hl1 hC1 hb1 HX HB
      have HB9 := HB2
      go_wp2
      go_ret2
      exact ⟨by first | rfl | (simp [*]; done), by repeat (first | (with_reducible first | exact HB9.out | apply below_alloc | apply pw_below_drewN | apply below_drew1) | exact HB9.out)⟩
    · have hne : (a1.toList == ([] : List UInt8)) = false := emptyS_no ha
      go_enter Tryz.func37, Tryz.ntmps37
      go_wp2_with (first | ((with_reducible refine gate_dst (N := 2) rfl ?_); refine box_event ?hg (N := 2) ?hd (cs := #[.string a0_0, .string a0_1, .int .i64 a0_2, .bool a0_3, .string a0_4, .slice A0_5 n5 c0_5]) (t := 40) ?hr ?_; (case hd => rfl); (case hg => rfl); (case hr => first | (go_simp; done) | (go_simp; rfl)); intro gb hg w3 hbox hb; have GW := Lib.hid ((by rw [hg]; exact Nat.le_refl _) : w.heap.size ≤ gb); have HX := Lib.hid hbox; have HB := Lib.hid hb; clear hg hbox hb))
      refine (HSC.out _).mono ?_
      rintro e1 w4 ⟨A1, c1, n1, rfl, hn1, hl1, hC1, hb1⟩
      have BK := Lib.hid (blk_below (g := gb) (o := .cells #[.string a0_0, .string a0_1, .int .i64 a0_2, .bool a0_3, .string a0_4, .slice A0_5 n5 c0_5] 40 (0, 0)) HX.out hb1)
      have HB2 := Lib.hid (below_step HB.out hb1)
      have hcz := (blk_cell BK.out 5).trans rfl
      have hfz := blk_frozen BK.out 5
      have HN := Lib.hid hn1; have HL := Lib.hid hl1; have HC1 := Lib.hid hC1
      clear hn1 hl1 hC1 hb1 HX HB
      have HB9 := HB2
      go_wp2
      go_ret2
      exact ⟨by first | rfl | (simp [*]; done), by repeat (first | (with_reducible first | exact HB9.out | apply below_alloc | apply pw_below_drewN | apply below_drew1) | exact HB9.out)⟩
end Go.Proofs.YtmimipgmhgalaaaGreatDoor.PAll
end
section
namespace Go.Proofs.YtmimipgmhgalaaaGreatDoor.PAll
open Go.RowKit Go.Proofs.YtmimipgmhgalaaaGreatDoorW.PrintWords Go.Proofs.YtmimipgmhgalaaaGreatDoorW.PrintLast Go.Proofs.YtmimipgmhgalaaaGreatDoorW.PrintMore
set_option linter.unusedVariables false
set_option linter.unusedSimpArgs false
abbrev liveText : ByteArray := ⟨#[105, 100, 61, 98, 111, 120, 38, 115, 101, 99, 114, 101, 116, 61, 115, 38, 103, 114, 97, 110, 116, 115, 61, 99, 105, 98, 97, 38, 115, 99, 111, 112, 101, 61, 112, 97, 121, 10, 105, 100, 61, 116, 118, 38, 103, 114, 97, 110, 116, 115, 61, 100, 101, 118, 105, 99, 101, 10]⟩
theorem live_parse : client_Parse.f 400 liveText = some (liveL, 0, 0) := by kernel_rfl
theorem live_scope : client_Scope.f 400 ⟨#[98, 111, 120]⟩ ⟨#[115]⟩ 2 false ⟨#[]⟩ [⟨#[112, 97, 121]⟩] ⟨#[]⟩ = some (⟨#[112, 97, 121]⟩, 0) := by kernel_rfl
theorem c68_one {w : World} {g : Nat} {t : TypeId} {x : S68} (h : w.heap[g]? = some (.cells #[.string x.f0, .string x.f1] t (0, 0))) : Kd.C k68 w (some ⟨g, 0, none⟩) 1 [x] := by
  refine ⟨rfl, by omega, fun _ => ⟨_, rfl, fun j p hj => ?_⟩⟩
  rcases j with _ | j
  · obtain rfl : x = p := Option.some.inj hj
    refine ⟨_, rfl, k68_mk w x, fun i u hu => ?_⟩
    rw [← hu]
    rcases i with _ | _ | i
    · exact blk_cell h 0
    · exact blk_cell h 1
    · cases hu
  · cases hj
theorem c68_two {w : World} {g : Nat} {t : TypeId} {x y : S68} (h : w.heap[g]? = some (.cells #[.string x.f0, .string x.f1, .string y.f0, .string y.f1] t (0, 0))) : Kd.C k68 w (some ⟨g, 0, none⟩) 2 [x, y] := by
  refine ⟨rfl, by omega, fun _ => ⟨_, rfl, fun j p hj => ?_⟩⟩
  rcases j with _ | _ | j
  · obtain rfl : x = p := Option.some.inj hj
    refine ⟨_, rfl, k68_mk w x, fun i u hu => ?_⟩
    rw [← hu]
    rcases i with _ | _ | i
    · exact blk_cell h 0
    · exact blk_cell h 1
    · cases hu
  · obtain rfl : y = p := Option.some.inj hj
    refine ⟨_, rfl, k68_mk w y, fun i u hu => ?_⟩
    rw [← hu]
    rcases i with _ | _ | i
    · exact blk_cell h 2
    · exact blk_cell h 3
    · cases hu
  · cases hj
def wicketlaw11_live.f : Option Bool := some true
theorem live_num (a0 : Int) (w : World) : Calls Tryz.prog 19 #[.int .i64 a0] w fun e w' => e = .returned (.int .i64 a0) ∧ Drawn0 w w' := by
  go_enter Tryz.func19, Tryz.ntmps19
  go_wp2
  go_ret
  exact ⟨rfl, by repeat (first | exact Drawn0.refl _ | apply Drawn0.step)⟩
theorem blk_new2 (w : World) (o o' : Obj) : ((w.alloc o).alloc o').heap[w.heap.size + 1]? = some o' := by
  have h := blk_new (w.alloc o) o'
  rwa [show (w.alloc o).heap.size = w.heap.size + 1 from Array.size_push _] at h
set_option maxRecDepth 100000 in
set_option maxHeartbeats 1000000 in
theorem wicketlaw11_live.calls (r : Bool) (w : World) (h : wicketlaw11_live.f = some r) : Calls Tryz.prog 21 #[] w fun e w' => e = .returned (.bool r) ∧ Below w.heap.size w w' := by
  obtain rfl : true = r := Option.some.inj h
  clear h
  have HA2 := Lib.hid auth_yes
  have HA1 := Lib.hid auth_no
  have HSC := Lib.hid (fun (V : World) (A : Option Addr) (c : Nat) (h1 : Kd.C Kd.string V A 1 [⟨#[112, 97, 121]⟩]) (h2 : 1 ≤ c) => show Calls Tryz.prog 37 #[.agg #[.string ⟨#[98, 111, 120]⟩, .string ⟨#[115]⟩, .int .i64 2, .bool false, .string ⟨#[]⟩, .slice A 1 c], .string ⟨#[]⟩] V (fun e w' => e = .returned (.tuple #[.string ⟨#[112, 97, 121]⟩, .int .i64 0]) ∧ Below V.heap.size V w') from
    client_Scope.calls 400 ⟨#[98, 111, 120]⟩ ⟨#[115]⟩ 2 false ⟨#[]⟩ A c [⟨#[112, 97, 121]⟩] ⟨#[]⟩ _ _ V h1 h2 live_scope)
  go_enter Tryz.func21, Tryz.ntmps21
  go_wp2_with (fail)
  refine (client_Parse.calls 400 liveText liveL 0 0 _ live_parse).mono ?_
  rintro e w1 ⟨v0, rfl, hS, hb⟩
  obtain ⟨g, c, rfl, hg, _, cs1, hcs⟩ := Kd.S_form hS (by decide)
  obtain ⟨_, hc, hC⟩ := Kd.S_reads' hS
  clear hS
  have HL := Lib.hid (show (2 : Nat) ≤ c from hc)
  have HC := Lib.hid (show Kd.C k40 w1 (some ⟨g, 0, none⟩) 2 liveL from hC)
  have HB := Lib.hid hb
  obtain ⟨ad, A5, c5, hA, _, h01, _⟩ := at_T40 HC.out 0 (by omega) (by omega)
  obtain ⟨ad', A6, c6, hA', _, _, h12, _⟩ := at_T40 HC.out 1 (by omega) (by omega)
  obtain rfl : (⟨g, 0, none⟩ : Addr) = ad := Option.some.inj hA
  obtain rfl : (⟨g, 0, none⟩ : Addr) = ad' := Option.some.inj hA'
  replace h01 : w1.cell? ⟨g, 1, none⟩ = some (.string ⟨#[115]⟩) := h01
  replace h12 : w1.cell? ⟨g, 8, none⟩ = some (.int .i64 1) := h12
  have hf1 := blk_frozen hcs 1
  have hf8 := blk_frozen hcs 8
  have HX := Lib.hid hcs
  clear hA hA' hb hC hc hcs hg
  rw [show liveL.length = 2 from rfl]
  go_wp2_with (go_at_call 19; (with_reducible refine (live_num 0 _).mono ?_); rintro e w2 ⟨rfl, ⟨nd, rfl⟩⟩)
  refine (HA2.out _ _ _ _ (Kd.C_alloc (Kd.C_drewN HC.out nd) _) (c68_two (x := ⟨_, _⟩) (y := ⟨_, _⟩) (blk_new (w1.drewN nd) _)) HL.out).mono ?_
  rintro e w3 ⟨A3, c3, rfl, hc3, hC3, hb3⟩
  have HB3 := Lib.hid (below_step (below_alloc (pw_below_drewN HB.out nd) _) hb3)
  have HC3 := Lib.hid (Kd.C_below (Kd.C_alloc (Kd.C_drewN HC.out nd) _) hb3)
  have HS3 := Lib.hid hC3
  have HL3 := Lib.hid hc3
  clear hc3 hC3 hb3 HB HC h01 h12 hf1 hf8 HX
  go_wp2_with (fail)
  refine (HA1.out _ _ _ _ (Kd.C_alloc (Kd.C_alloc HC3.out _) _) (c68_one (x := ⟨_, _⟩) (blk_new2 w3 _ _)) HL.out).mono ?_
  rintro e w5 ⟨rfl, hb5⟩
  have BK := Lib.hid (blk_below (blk_alloc (blk_new w3 _) _) hb5)
  have HB5 := Lib.hid (below_step (below_alloc (below_alloc HB3.out _) _) hb5)
  have HS5 := Lib.hid (Kd.C_below (Kd.C_alloc (Kd.C_alloc HS3.out _) _) hb5)
  obtain ⟨p, hp⟩ : ∃ p, p = w3.heap.size := ⟨_, rfl⟩
  rw [← hp] at BK ⊢
  clear hb5 HB3 HC3 HS3 hp
  go_upto_region 6 with (fail)
  have BK6 := Lib.hid (blk_alloc BK.out (Obj.cells #[.string ⟨#[]⟩, .string ⟨#[]⟩, .int .i64 0, .bool false, .string ⟨#[]⟩, .slice none 0 0] 40))
  have HB6 := Lib.hid (below_alloc HB5.out (Obj.cells #[.string ⟨#[]⟩, .string ⟨#[]⟩, .int .i64 0, .bool false, .string ⟨#[]⟩, .slice none 0 0] 40))
  have HS6 := Lib.hid (Kd.C_alloc HS5.out (Obj.cells #[.string ⟨#[]⟩, .string ⟨#[]⟩, .int .i64 0, .bool false, .string ⟨#[]⟩, .slice none 0 0] 40))
  clear BK HB5 HS5
  obtain ⟨q, hq⟩ : ∃ q, q = w5.heap.size := ⟨_, rfl⟩
  rw [← hq]
  generalize hW : w5.alloc (Obj.cells #[.string ⟨#[]⟩, .string ⟨#[]⟩, .int .i64 0, .bool false, .string ⟨#[]⟩, .slice none 0 0] 40) = w6
  rw [hW] at BK6 HB6 HS6
  clear hW hq
  have h50 := blk_cell BK6.out 0
  have h51 := blk_cell BK6.out 1
  have h52 := blk_cell BK6.out 2
  have h53 := blk_cell BK6.out 3
  have h54 := blk_cell BK6.out 4
  have h55 := blk_cell BK6.out 5
  have hf0 := blk_frozen BK6.out 0
  have hf1 := blk_frozen BK6.out 1
  have hf2 := blk_frozen BK6.out 2
  have hf3 := blk_frozen BK6.out 3
  have hf4 := blk_frozen BK6.out 4
  have hf5 := blk_frozen BK6.out 5
  go_wp2_with (fail)
  refine (HSC.out _ _ _ HS6.out HL3.out).mono ?_
  rintro e w7 ⟨rfl, hb7⟩
  have BK7 := Lib.hid (blk_below BK6.out hb7)
  have HB7 := Lib.hid (below_step HB6.out hb7)
  clear h50 h51 h52 h53 h54 h55 hf0 hf1 hf2 hf3 hf4 hf5 BK6 HB6 HS6 hb7
  have h60 := (blk_cell BK7.out 0).trans rfl
  have hf0 := blk_frozen BK7.out 0
  go_wp2_with (first | (go_at_call 19; (with_reducible refine (live_num 0 _).mono ?_); rintro e w9 ⟨rfl, ⟨nd9, rfl⟩⟩) | (go_at_call 19; (with_reducible refine (live_num 112 _).mono ?_); rintro e w9 ⟨rfl, ⟨nd9, rfl⟩⟩))
  go_ret
  exact ⟨rfl, by repeat (first | (with_reducible first | exact HB7.out | apply below_alloc | apply pw_below_drewN | apply below_drew1) | exact HB7.out)⟩
end Go.Proofs.YtmimipgmhgalaaaGreatDoor.PAll
end
section
namespace Go.Proofs.YtmimipgmhgalaaaGreatDoor.PAll
open Go.RowKit Go.Proofs.YtmimipgmhgalaaaGreatDoorW.PrintWords Go.Proofs.YtmimipgmhgalaaaGreatDoorW.PrintLast Go.Proofs.YtmimipgmhgalaaaGreatDoorW.PrintMore
attribute [local go_sem] max2_int min2_int max_two min_two max_three min_three max_four min_four
set_option linter.unusedVariables false
set_option linter.unusedSimpArgs false
def wicketlaw11_ClientPrints.f (k : Nat) (l0 : List (S40)) : Option (Bool) := (wicketlaw11_copied.f k l0).bind fun t522 => ((client_Print.f t522).bind fun bt525 => ((wicketlaw11_all.f k l0).bind fun t527 => ((wicketref11_Print.f k t527).bind fun bt530 => (if bt525.1.toList = bt530.1.toList then ((wicketlaw11_num.f bt525.2).bind fun t532 => (if t532 = bt530.2 then ((wicketlaw11_all.f k l0).bind fun t533 => ((wicketlaw11_list.f k t522 t533).bind fun t536 => (if t536 = true then ((wicketlaw11_live.f).bind fun t537 => (some t537)) else (some false)))) else (some false))) else (some false)))))
set_option maxHeartbeats 8000000 in
set_option maxRecDepth 100000 in
theorem wicketlaw11_ClientPrints.calls (k : Nat) (A0 : Option Addr) (c0 : Nat) (l0 : List (S40)) (r : Bool) (w : World) (hr0 : Kd.C k40 w A0 l0.length l0) (hc0 : l0.length ≤ c0) (h : wicketlaw11_ClientPrints.f k l0 = some r) :
    Calls Tryz.prog 3 #[.slice A0 l0.length c0] w fun e w' => e = .returned (.bool r) ∧ Below w.heap.size w w' := by
  have HR0 := Aside0.mk hr0
  have HC0 := Aside0.mk hc0
  clear hr0 hc0
  have HB := Aside0.mk (Below.refl w.heap.size w)
  have H : ((wicketlaw11_copied.f k l0).bind fun t522 => ((client_Print.f t522).bind fun bt525 => ((wicketlaw11_all.f k l0).bind fun t527 => ((wicketref11_Print.f k t527).bind fun bt530 => (if bt525.1.toList = bt530.1.toList then ((wicketlaw11_num.f bt525.2).bind fun t532 => (if t532 = bt530.2 then ((wicketlaw11_all.f k l0).bind fun t533 => ((wicketlaw11_list.f k t522 t533).bind fun t536 => (if t536 = true then ((wicketlaw11_live.f).bind fun t537 => (some t537)) else (some false)))) else (some false))) else (some false)))))) = some r := h
  clear h
  replace H := Option.bind_eq_some_iff.mp H
  obtain ⟨t522, A20, H⟩ := H
  replace H : ((client_Print.f t522).bind fun bt525 => ((wicketlaw11_all.f k l0).bind fun t527 => ((wicketref11_Print.f k t527).bind fun bt530 => (if bt525.1.toList = bt530.1.toList then ((wicketlaw11_num.f bt525.2).bind fun t532 => (if t532 = bt530.2 then ((wicketlaw11_all.f k l0).bind fun t533 => ((wicketlaw11_list.f k t522 t533).bind fun t536 => (if t536 = true then ((wicketlaw11_live.f).bind fun t537 => (some t537)) else (some false)))) else (some false))) else (some false))))) = some r := H
  have A2 := Aside0.mk A20
  clear A20
  replace H := Option.bind_eq_some_iff.mp H
  obtain ⟨⟨t525, t526⟩, A30, H⟩ := H
  replace H : ((wicketlaw11_all.f k l0).bind fun t527 => ((wicketref11_Print.f k t527).bind fun bt530 => (if t525.toList = bt530.1.toList then ((wicketlaw11_num.f t526).bind fun t532 => (if t532 = bt530.2 then ((wicketlaw11_all.f k l0).bind fun t533 => ((wicketlaw11_list.f k t522 t533).bind fun t536 => (if t536 = true then ((wicketlaw11_live.f).bind fun t537 => (some t537)) else (some false)))) else (some false))) else (some false)))) = some r := H
  have A3 := Aside0.mk A30
  clear A30
  replace H := Option.bind_eq_some_iff.mp H
  obtain ⟨t527, A40, H⟩ := H
  replace H : ((wicketref11_Print.f k t527).bind fun bt530 => (if t525.toList = bt530.1.toList then ((wicketlaw11_num.f t526).bind fun t532 => (if t532 = bt530.2 then ((wicketlaw11_all.f k l0).bind fun t533 => ((wicketlaw11_list.f k t522 t533).bind fun t536 => (if t536 = true then ((wicketlaw11_live.f).bind fun t537 => (some t537)) else (some false)))) else (some false))) else (some false))) = some r := H
  have A4 := Aside0.mk A40
  clear A40
  replace H := Option.bind_eq_some_iff.mp H
  obtain ⟨⟨t530, t531⟩, A50, H⟩ := H
  replace H : (if t525.toList = t530.toList then ((wicketlaw11_num.f t526).bind fun t532 => (if t532 = t531 then ((wicketlaw11_all.f k l0).bind fun t533 => ((wicketlaw11_list.f k t522 t533).bind fun t536 => (if t536 = true then ((wicketlaw11_live.f).bind fun t537 => (some t537)) else (some false)))) else (some false))) else (some false)) = some r := H
  have A5 := Aside0.mk A50
  clear A50
  by_cases c6 : t525.toList = t530.toList
  · rw [if_pos c6] at H
    have c6b0 : (t525.toList == t530.toList) = true := beq_iff_eq.mpr c6
    have c6b1 : (t525.toList != t530.toList) = false := bne_eq_false_iff_eq.mpr c6
    clear c6
    replace H := Option.bind_eq_some_iff.mp H
    obtain ⟨t532, A70, H⟩ := H
    replace H : (if t532 = t531 then ((wicketlaw11_all.f k l0).bind fun t533 => ((wicketlaw11_list.f k t522 t533).bind fun t536 => (if t536 = true then ((wicketlaw11_live.f).bind fun t537 => (some t537)) else (some false)))) else (some false)) = some r := H
    have A7 := Aside0.mk A70
    clear A70
    by_cases c8 : t532 = t531
    · rw [if_pos c8] at H
      have c8b0 : (t532 == t531) = true := beq_iff_eq.mpr c8
      have c8b1 : (t532 != t531) = false := bne_eq_false_iff_eq.mpr c8
      clear c8
      replace H := Option.bind_eq_some_iff.mp H
      obtain ⟨t533, A90, H⟩ := H
      replace H : ((wicketlaw11_list.f k t522 t533).bind fun t536 => (if t536 = true then ((wicketlaw11_live.f).bind fun t537 => (some t537)) else (some false))) = some r := H
      have A9 := Aside0.mk A90
      clear A90
      replace H := Option.bind_eq_some_iff.mp H
      obtain ⟨t536, A100, H⟩ := H
      replace H : (if t536 = true then ((wicketlaw11_live.f).bind fun t537 => (some t537)) else (some false)) = some r := H
      have A10 := Aside0.mk A100
      clear A100
      by_cases c11 : t536 = true
      · subst c11
        have H1 : ((wicketlaw11_live.f).bind fun t537 => (some t537)) = some r := by rw [if_pos rfl] at H; exact H
        clear H
        have H := H1
        clear H1
        replace H := Option.bind_eq_some_iff.mp H
        obtain ⟨t537, A120, H⟩ := H
        replace H : (some t537) = some r := H
        have A12 := Aside0.mk A120
        clear A120
        obtain rfl := Option.some.inj H
        go_enter Tryz.func3, Tryz.ntmps3
        go_wp2_with (first | ((with_reducible refine gate_callee (f := 15) rfl ?_); refine goesL_ (some 9) rfl rfl Tryz.func15 (by kernel_rfl) rfl #[.slice A0 l0.length c0] rfl (by (try simp only [List.map_toArray, List.map_cons, List.map_nil]); first | done | rfl | (simp only [List.length_drop, List.length_take]; rfl)) ?_; (with_reducible refine (wicketlaw11_copied.calls k _ _ l0 t522 _ ?side1 ?side2 A2.out).mono ?_); (case side1 => repeat (first | exact HR0.out | (with_reducible refine Kd.C_alloc ?_ _) | (with_reducible refine Kd.C_drewN ?_ _) | (with_reducible refine Kd.C_drew ?_))); (case side2 => exact HC0.out); rintro e w13 ⟨v523, rfl, ho0, hb⟩; refine ⟨_, rfl, ?_⟩; have n0_ := Aside0.mk (Kd.S_lower ho0 (below_size (by repeat (first | (with_reducible first | exact HB.out | apply below_alloc | apply pw_below_drewN | apply below_drew1) | exact HB.out)))); have n1_ := Aside0.mk (below_step (by repeat (first | (with_reducible first | exact HB.out | apply below_alloc | apply pw_below_drewN | apply below_drew1) | exact HB.out)) hb); clear HB; have HO524 := n0_; have HB := n1_; clear n0_ n1_; (try clear hb); (try clear hb2); (try clear hk); (try clear hi); (try clear ho0); obtain ⟨Ao14, co14, eo14⟩ := Kd.S_slice HO524.out; subst eo14) | ((with_reducible refine gate_callee (f := 16) rfl ?_); refine goesL_ (some 12) rfl rfl Tryz.func16 (by kernel_rfl) rfl #[.slice Ao14 t522.length co14] rfl (by (try simp only [List.map_toArray, List.map_cons, List.map_nil]); first | done | rfl | (simp only [List.length_drop, List.length_take]; rfl)) ?_; (with_reducible refine (client_Print.calls _ _ t522 t525 t526 _ ?side1 ?side2 A3.out).mono ?_); (case side1 => repeat (first | exact (Kd.S_reads' HO524.out).2.2 | (with_reducible refine Kd.C_alloc ?_ _) | (with_reducible refine Kd.C_drewN ?_ _) | (with_reducible refine Kd.C_drew ?_))); (case side2 => exact (Kd.S_reads' HO524.out).2.1); rintro e w15 ⟨rfl, hb⟩; refine ⟨_, rfl, ?_⟩; have n0_ := Aside0.mk (Kd.S_below (by (with_reducible repeat (first | apply Kd.S_alloc | apply Kd.S_drewN | apply Kd.S_drew)); exact HO524.out) hb); have n1_ := Aside0.mk (below_step (by repeat (first | (with_reducible first | exact HB.out | apply below_alloc | apply pw_below_drewN | apply below_drew1) | exact HB.out)) hb); clear HO524; clear HB; have HO524 := n0_; have HB := n1_; clear n0_ n1_; (try clear hb); (try clear hb2); (try clear hk); (try clear hi)) | ((with_reducible refine gate_callee (f := 18) rfl ?_); refine goesL_ (some 17) rfl rfl Tryz.func18 (by kernel_rfl) rfl #[.slice A0 l0.length c0] rfl (by (try simp only [List.map_toArray, List.map_cons, List.map_nil]); first | done | rfl | (simp only [List.length_drop, List.length_take]; rfl)) ?_; (with_reducible refine (wicketlaw11_all.calls k _ _ l0 t527 _ ?side1 ?side2 A4.out).mono ?_); (case side1 => repeat (first | exact (Kd.C_below HR0.out HB.out) | (with_reducible refine Kd.C_alloc ?_ _) | (with_reducible refine Kd.C_drewN ?_ _) | (with_reducible refine Kd.C_drew ?_))); (case side2 => exact HC0.out); rintro e w16 ⟨v528, rfl, ho0, hb⟩; refine ⟨_, rfl, ?_⟩; have n0_ := Aside0.mk (Kd.S_below (by (with_reducible repeat (first | apply Kd.S_alloc | apply Kd.S_drewN | apply Kd.S_drew)); exact HO524.out) hb); have n1_ := Aside0.mk (Kd.S_lower ho0 (below_size (by repeat (first | (with_reducible first | exact HB.out | apply below_alloc | apply pw_below_drewN | apply below_drew1) | exact HB.out)))); have n2_ := Aside0.mk (below_step (by repeat (first | (with_reducible first | exact HB.out | apply below_alloc | apply pw_below_drewN | apply below_drew1) | exact HB.out)) hb); clear HO524; clear HB; have HO524 := n0_; have HO529 := n1_; have HB := n2_; clear n0_ n1_ n2_; (try clear hb); (try clear hb2); (try clear hk); (try clear hi); (try clear ho0); obtain ⟨Ao17, co17, eo17⟩ := Kd.S_slice HO529.out; subst eo17) | ((with_reducible refine gate_callee (f := 17) rfl ?_); refine goesL_ (some 18) rfl rfl Tryz.func17 (by kernel_rfl) rfl #[.slice Ao17 t527.length co17] rfl (by (try simp only [List.map_toArray, List.map_cons, List.map_nil]); first | done | rfl | (simp only [List.length_drop, List.length_take]; rfl)) ?_; (with_reducible refine (wicketref11_Print.calls k _ _ t527 t530 t531 _ ?side1 ?side2 A5.out).mono ?_); (case side1 => repeat (first | exact (Kd.S_reads' HO529.out).2.2 | (with_reducible refine Kd.C_alloc ?_ _) | (with_reducible refine Kd.C_drewN ?_ _) | (with_reducible refine Kd.C_drew ?_))); (case side2 => exact (Kd.S_reads' HO529.out).2.1); rintro e w18 ⟨rfl, hb⟩; refine ⟨_, rfl, ?_⟩; have n0_ := Aside0.mk (Kd.S_below (by (with_reducible repeat (first | apply Kd.S_alloc | apply Kd.S_drewN | apply Kd.S_drew)); exact HO524.out) hb); have n1_ := Aside0.mk (Kd.S_below (by (with_reducible repeat (first | apply Kd.S_alloc | apply Kd.S_drewN | apply Kd.S_drew)); exact HO529.out) hb); have n2_ := Aside0.mk (below_step (by repeat (first | (with_reducible first | exact HB.out | apply below_alloc | apply pw_below_drewN | apply below_drew1) | exact HB.out)) hb); clear HO524; clear HO529; clear HB; have HO524 := n0_; have HO529 := n1_; have HB := n2_; clear n0_ n1_ n2_; (try clear hb); (try clear hb2); (try clear hk); (try clear hi)) | (go_at_call 19; (with_reducible refine (wicketlaw11_num.calls t526 t532 _ A7.out).mono ?_); rintro e w' ⟨rfl, ⟨nd, rfl⟩⟩) | (go_at_call 18; (with_reducible refine (wicketlaw11_all.calls k _ _ l0 t533 _ ?side1 ?side2 A9.out).mono ?_); (case side1 => repeat (first | exact (Kd.C_below HR0.out (by repeat (first | (with_reducible first | exact HB.out | apply below_alloc | apply pw_below_drewN | apply below_drew1) | exact HB.out))) | (with_reducible refine Kd.C_alloc ?_ _) | (with_reducible refine Kd.C_drewN ?_ _) | (with_reducible refine Kd.C_drew ?_))); (case side2 => exact HC0.out); rintro e w19 ⟨v534, rfl, ho0, hb⟩; have n0_ := Aside0.mk (Kd.S_below (by (with_reducible repeat (first | apply Kd.S_alloc | apply Kd.S_drewN | apply Kd.S_drew)); exact HO524.out) hb); have n1_ := Aside0.mk (Kd.S_elder' (by (with_reducible repeat (first | apply Kd.S_alloc | apply Kd.S_drewN | apply Kd.S_drew)); exact HO529.out) (Kd.S_base ho0) hb); have n2_ := Aside0.mk (Kd.S_lower (Kd.S_new' ho0 (Kd.S_lt (by (with_reducible repeat (first | apply Kd.S_alloc | apply Kd.S_drewN | apply Kd.S_drew)); exact HO529.out))) (below_size (by repeat (first | (with_reducible first | exact HB.out | apply below_alloc | apply pw_below_drewN | apply below_drew1) | exact HB.out)))); have n3_ := Aside0.mk (below_step (by repeat (first | (with_reducible first | exact HB.out | apply below_alloc | apply pw_below_drewN | apply below_drew1) | exact HB.out)) hb); clear HO524; clear HO529; clear HB; have HO524 := n0_; have HO529 := n1_; have HO535 := n2_; have HB := n3_; clear n0_ n1_ n2_ n3_; (try clear hb); (try clear hb2); (try clear hk); (try clear hi); (try clear ho0); obtain ⟨Ao20, co20, eo20⟩ := Kd.S_slice HO535.out; subst eo20) | (go_at_call 20; (with_reducible refine (wicketlaw11_list.calls k _ _ t522 _ _ t533 true _ ?side1 ?side2 ?side3 ?side4 A10.out).mono ?_); (case side1 => repeat (first | exact (Kd.S_reads' HO524.out).2.2 | (with_reducible refine Kd.C_alloc ?_ _) | (with_reducible refine Kd.C_drewN ?_ _) | (with_reducible refine Kd.C_drew ?_))); (case side2 => exact (Kd.S_reads' HO524.out).2.1); (case side3 => repeat (first | exact (Kd.S_reads' HO535.out).2.2 | (with_reducible refine Kd.C_alloc ?_ _) | (with_reducible refine Kd.C_drewN ?_ _) | (with_reducible refine Kd.C_drew ?_))); (case side4 => exact (Kd.S_reads' HO535.out).2.1); rintro e w21 ⟨rfl, hb⟩; have n0_ := Aside0.mk (Kd.S_below (by (with_reducible repeat (first | apply Kd.S_alloc | apply Kd.S_drewN | apply Kd.S_drew)); exact HO524.out) hb); have n1_ := Aside0.mk (Kd.S_below (by (with_reducible repeat (first | apply Kd.S_alloc | apply Kd.S_drewN | apply Kd.S_drew)); exact HO529.out) hb); have n2_ := Aside0.mk (Kd.S_below (by (with_reducible repeat (first | apply Kd.S_alloc | apply Kd.S_drewN | apply Kd.S_drew)); exact HO535.out) hb); have n3_ := Aside0.mk (below_step (by repeat (first | (with_reducible first | exact HB.out | apply below_alloc | apply pw_below_drewN | apply below_drew1) | exact HB.out)) hb); clear HO524; clear HO529; clear HO535; clear HB; have HO524 := n0_; have HO529 := n1_; have HO535 := n2_; have HB := n3_; clear n0_ n1_ n2_ n3_; (try clear hb); (try clear hb2); (try clear hk); (try clear hi)) | (go_at_call 21; (with_reducible refine (wicketlaw11_live.calls  t537 _ A12.out).mono ?_); rintro e w22 ⟨rfl, hb⟩; have n0_ := Aside0.mk (Kd.S_below (by (with_reducible repeat (first | apply Kd.S_alloc | apply Kd.S_drewN | apply Kd.S_drew)); exact HO524.out) hb); have n1_ := Aside0.mk (Kd.S_below (by (with_reducible repeat (first | apply Kd.S_alloc | apply Kd.S_drewN | apply Kd.S_drew)); exact HO529.out) hb); have n2_ := Aside0.mk (Kd.S_below (by (with_reducible repeat (first | apply Kd.S_alloc | apply Kd.S_drewN | apply Kd.S_drew)); exact HO535.out) hb); have n3_ := Aside0.mk (below_step (by repeat (first | (with_reducible first | exact HB.out | apply below_alloc | apply pw_below_drewN | apply below_drew1) | exact HB.out)) hb); clear HO524; clear HO529; clear HO535; clear HB; have HO524 := n0_; have HO529 := n1_; have HO535 := n2_; have HB := n3_; clear n0_ n1_ n2_ n3_; (try clear hb); (try clear hb2); (try clear hk); (try clear hi)))
        go_ret
        exact ⟨by first | rfl | (simp [errW_none, errW_some] <;> rfl) | (simp [*, errW_none, errW_some] <;> rfl) | (simp; (generalize ByteArray.toList _ = z_); cases z_ <;> rfl), by repeat (first | (with_reducible first | exact HB.out | apply below_alloc | apply pw_below_drewN | apply below_drew1) | exact HB.out)⟩
      · replace c11 := Bool.eq_false_iff.mpr c11
        subst c11
        have H1 : (some false) = some r := by rw [if_neg (show ¬ (false = true) by decide)] at H; exact H
        clear H
        have H := H1
        clear H1
        obtain rfl := Option.some.inj H
        go_enter Tryz.func3, Tryz.ntmps3
        go_wp2_with (first | ((with_reducible refine gate_callee (f := 15) rfl ?_); refine goesL_ (some 9) rfl rfl Tryz.func15 (by kernel_rfl) rfl #[.slice A0 l0.length c0] rfl (by (try simp only [List.map_toArray, List.map_cons, List.map_nil]); first | done | rfl | (simp only [List.length_drop, List.length_take]; rfl)) ?_; (with_reducible refine (wicketlaw11_copied.calls k _ _ l0 t522 _ ?side1 ?side2 A2.out).mono ?_); (case side1 => repeat (first | exact HR0.out | (with_reducible refine Kd.C_alloc ?_ _) | (with_reducible refine Kd.C_drewN ?_ _) | (with_reducible refine Kd.C_drew ?_))); (case side2 => exact HC0.out); rintro e w23 ⟨v523, rfl, ho0, hb⟩; refine ⟨_, rfl, ?_⟩; have n0_ := Aside0.mk (Kd.S_lower ho0 (below_size (by repeat (first | (with_reducible first | exact HB.out | apply below_alloc | apply pw_below_drewN | apply below_drew1) | exact HB.out)))); have n1_ := Aside0.mk (below_step (by repeat (first | (with_reducible first | exact HB.out | apply below_alloc | apply pw_below_drewN | apply below_drew1) | exact HB.out)) hb); clear HB; have HO524 := n0_; have HB := n1_; clear n0_ n1_; (try clear hb); (try clear hb2); (try clear hk); (try clear hi); (try clear ho0); obtain ⟨Ao24, co24, eo24⟩ := Kd.S_slice HO524.out; subst eo24) | ((with_reducible refine gate_callee (f := 16) rfl ?_); refine goesL_ (some 12) rfl rfl Tryz.func16 (by kernel_rfl) rfl #[.slice Ao24 t522.length co24] rfl (by (try simp only [List.map_toArray, List.map_cons, List.map_nil]); first | done | rfl | (simp only [List.length_drop, List.length_take]; rfl)) ?_; (with_reducible refine (client_Print.calls _ _ t522 t525 t526 _ ?side1 ?side2 A3.out).mono ?_); (case side1 => repeat (first | exact (Kd.S_reads' HO524.out).2.2 | (with_reducible refine Kd.C_alloc ?_ _) | (with_reducible refine Kd.C_drewN ?_ _) | (with_reducible refine Kd.C_drew ?_))); (case side2 => exact (Kd.S_reads' HO524.out).2.1); rintro e w25 ⟨rfl, hb⟩; refine ⟨_, rfl, ?_⟩; have n0_ := Aside0.mk (Kd.S_below (by (with_reducible repeat (first | apply Kd.S_alloc | apply Kd.S_drewN | apply Kd.S_drew)); exact HO524.out) hb); have n1_ := Aside0.mk (below_step (by repeat (first | (with_reducible first | exact HB.out | apply below_alloc | apply pw_below_drewN | apply below_drew1) | exact HB.out)) hb); clear HO524; clear HB; have HO524 := n0_; have HB := n1_; clear n0_ n1_; (try clear hb); (try clear hb2); (try clear hk); (try clear hi)) | ((with_reducible refine gate_callee (f := 18) rfl ?_); refine goesL_ (some 17) rfl rfl Tryz.func18 (by kernel_rfl) rfl #[.slice A0 l0.length c0] rfl (by (try simp only [List.map_toArray, List.map_cons, List.map_nil]); first | done | rfl | (simp only [List.length_drop, List.length_take]; rfl)) ?_; (with_reducible refine (wicketlaw11_all.calls k _ _ l0 t527 _ ?side1 ?side2 A4.out).mono ?_); (case side1 => repeat (first | exact (Kd.C_below HR0.out HB.out) | (with_reducible refine Kd.C_alloc ?_ _) | (with_reducible refine Kd.C_drewN ?_ _) | (with_reducible refine Kd.C_drew ?_))); (case side2 => exact HC0.out); rintro e w26 ⟨v528, rfl, ho0, hb⟩; refine ⟨_, rfl, ?_⟩; have n0_ := Aside0.mk (Kd.S_below (by (with_reducible repeat (first | apply Kd.S_alloc | apply Kd.S_drewN | apply Kd.S_drew)); exact HO524.out) hb); have n1_ := Aside0.mk (Kd.S_lower ho0 (below_size (by repeat (first | (with_reducible first | exact HB.out | apply below_alloc | apply pw_below_drewN | apply below_drew1) | exact HB.out)))); have n2_ := Aside0.mk (below_step (by repeat (first | (with_reducible first | exact HB.out | apply below_alloc | apply pw_below_drewN | apply below_drew1) | exact HB.out)) hb); clear HO524; clear HB; have HO524 := n0_; have HO529 := n1_; have HB := n2_; clear n0_ n1_ n2_; (try clear hb); (try clear hb2); (try clear hk); (try clear hi); (try clear ho0); obtain ⟨Ao27, co27, eo27⟩ := Kd.S_slice HO529.out; subst eo27) | ((with_reducible refine gate_callee (f := 17) rfl ?_); refine goesL_ (some 18) rfl rfl Tryz.func17 (by kernel_rfl) rfl #[.slice Ao27 t527.length co27] rfl (by (try simp only [List.map_toArray, List.map_cons, List.map_nil]); first | done | rfl | (simp only [List.length_drop, List.length_take]; rfl)) ?_; (with_reducible refine (wicketref11_Print.calls k _ _ t527 t530 t531 _ ?side1 ?side2 A5.out).mono ?_); (case side1 => repeat (first | exact (Kd.S_reads' HO529.out).2.2 | (with_reducible refine Kd.C_alloc ?_ _) | (with_reducible refine Kd.C_drewN ?_ _) | (with_reducible refine Kd.C_drew ?_))); (case side2 => exact (Kd.S_reads' HO529.out).2.1); rintro e w28 ⟨rfl, hb⟩; refine ⟨_, rfl, ?_⟩; have n0_ := Aside0.mk (Kd.S_below (by (with_reducible repeat (first | apply Kd.S_alloc | apply Kd.S_drewN | apply Kd.S_drew)); exact HO524.out) hb); have n1_ := Aside0.mk (Kd.S_below (by (with_reducible repeat (first | apply Kd.S_alloc | apply Kd.S_drewN | apply Kd.S_drew)); exact HO529.out) hb); have n2_ := Aside0.mk (below_step (by repeat (first | (with_reducible first | exact HB.out | apply below_alloc | apply pw_below_drewN | apply below_drew1) | exact HB.out)) hb); clear HO524; clear HO529; clear HB; have HO524 := n0_; have HO529 := n1_; have HB := n2_; clear n0_ n1_ n2_; (try clear hb); (try clear hb2); (try clear hk); (try clear hi)) | (go_at_call 19; (with_reducible refine (wicketlaw11_num.calls t526 t532 _ A7.out).mono ?_); rintro e w' ⟨rfl, ⟨nd, rfl⟩⟩) | (go_at_call 18; (with_reducible refine (wicketlaw11_all.calls k _ _ l0 t533 _ ?side1 ?side2 A9.out).mono ?_); (case side1 => repeat (first | exact (Kd.C_below HR0.out (by repeat (first | (with_reducible first | exact HB.out | apply below_alloc | apply pw_below_drewN | apply below_drew1) | exact HB.out))) | (with_reducible refine Kd.C_alloc ?_ _) | (with_reducible refine Kd.C_drewN ?_ _) | (with_reducible refine Kd.C_drew ?_))); (case side2 => exact HC0.out); rintro e w29 ⟨v534, rfl, ho0, hb⟩; have n0_ := Aside0.mk (Kd.S_below (by (with_reducible repeat (first | apply Kd.S_alloc | apply Kd.S_drewN | apply Kd.S_drew)); exact HO524.out) hb); have n1_ := Aside0.mk (Kd.S_elder' (by (with_reducible repeat (first | apply Kd.S_alloc | apply Kd.S_drewN | apply Kd.S_drew)); exact HO529.out) (Kd.S_base ho0) hb); have n2_ := Aside0.mk (Kd.S_lower (Kd.S_new' ho0 (Kd.S_lt (by (with_reducible repeat (first | apply Kd.S_alloc | apply Kd.S_drewN | apply Kd.S_drew)); exact HO529.out))) (below_size (by repeat (first | (with_reducible first | exact HB.out | apply below_alloc | apply pw_below_drewN | apply below_drew1) | exact HB.out)))); have n3_ := Aside0.mk (below_step (by repeat (first | (with_reducible first | exact HB.out | apply below_alloc | apply pw_below_drewN | apply below_drew1) | exact HB.out)) hb); clear HO524; clear HO529; clear HB; have HO524 := n0_; have HO529 := n1_; have HO535 := n2_; have HB := n3_; clear n0_ n1_ n2_ n3_; (try clear hb); (try clear hb2); (try clear hk); (try clear hi); (try clear ho0); obtain ⟨Ao30, co30, eo30⟩ := Kd.S_slice HO535.out; subst eo30) | (go_at_call 20; (with_reducible refine (wicketlaw11_list.calls k _ _ t522 _ _ t533 false _ ?side1 ?side2 ?side3 ?side4 A10.out).mono ?_); (case side1 => repeat (first | exact (Kd.S_reads' HO524.out).2.2 | (with_reducible refine Kd.C_alloc ?_ _) | (with_reducible refine Kd.C_drewN ?_ _) | (with_reducible refine Kd.C_drew ?_))); (case side2 => exact (Kd.S_reads' HO524.out).2.1); (case side3 => repeat (first | exact (Kd.S_reads' HO535.out).2.2 | (with_reducible refine Kd.C_alloc ?_ _) | (with_reducible refine Kd.C_drewN ?_ _) | (with_reducible refine Kd.C_drew ?_))); (case side4 => exact (Kd.S_reads' HO535.out).2.1); rintro e w31 ⟨rfl, hb⟩; have n0_ := Aside0.mk (Kd.S_below (by (with_reducible repeat (first | apply Kd.S_alloc | apply Kd.S_drewN | apply Kd.S_drew)); exact HO524.out) hb); have n1_ := Aside0.mk (Kd.S_below (by (with_reducible repeat (first | apply Kd.S_alloc | apply Kd.S_drewN | apply Kd.S_drew)); exact HO529.out) hb); have n2_ := Aside0.mk (Kd.S_below (by (with_reducible repeat (first | apply Kd.S_alloc | apply Kd.S_drewN | apply Kd.S_drew)); exact HO535.out) hb); have n3_ := Aside0.mk (below_step (by repeat (first | (with_reducible first | exact HB.out | apply below_alloc | apply pw_below_drewN | apply below_drew1) | exact HB.out)) hb); clear HO524; clear HO529; clear HO535; clear HB; have HO524 := n0_; have HO529 := n1_; have HO535 := n2_; have HB := n3_; clear n0_ n1_ n2_ n3_; (try clear hb); (try clear hb2); (try clear hk); (try clear hi)))
        go_ret
        exact ⟨by first | rfl | (simp [errW_none, errW_some] <;> rfl) | (simp [*, errW_none, errW_some] <;> rfl) | (simp; (generalize ByteArray.toList _ = z_); cases z_ <;> rfl), by repeat (first | (with_reducible first | exact HB.out | apply below_alloc | apply pw_below_drewN | apply below_drew1) | exact HB.out)⟩
    · rw [if_neg c8] at H
      have c8b0 : (t532 == t531) = false := beq_eq_false_iff_ne.mpr c8
      have c8b1 : (t532 != t531) = true := bne_iff_ne.mpr c8
      obtain rfl := Option.some.inj H
      go_enter Tryz.func3, Tryz.ntmps3
      go_wp2_with (first | ((with_reducible refine gate_callee (f := 15) rfl ?_); refine goesL_ (some 9) rfl rfl Tryz.func15 (by kernel_rfl) rfl #[.slice A0 l0.length c0] rfl (by (try simp only [List.map_toArray, List.map_cons, List.map_nil]); first | done | rfl | (simp only [List.length_drop, List.length_take]; rfl)) ?_; (with_reducible refine (wicketlaw11_copied.calls k _ _ l0 t522 _ ?side1 ?side2 A2.out).mono ?_); (case side1 => repeat (first | exact HR0.out | (with_reducible refine Kd.C_alloc ?_ _) | (with_reducible refine Kd.C_drewN ?_ _) | (with_reducible refine Kd.C_drew ?_))); (case side2 => exact HC0.out); rintro e w32 ⟨v523, rfl, ho0, hb⟩; refine ⟨_, rfl, ?_⟩; have n0_ := Aside0.mk (Kd.S_lower ho0 (below_size (by repeat (first | (with_reducible first | exact HB.out | apply below_alloc | apply pw_below_drewN | apply below_drew1) | exact HB.out)))); have n1_ := Aside0.mk (below_step (by repeat (first | (with_reducible first | exact HB.out | apply below_alloc | apply pw_below_drewN | apply below_drew1) | exact HB.out)) hb); clear HB; have HO524 := n0_; have HB := n1_; clear n0_ n1_; (try clear hb); (try clear hb2); (try clear hk); (try clear hi); (try clear ho0); obtain ⟨Ao33, co33, eo33⟩ := Kd.S_slice HO524.out; subst eo33) | ((with_reducible refine gate_callee (f := 16) rfl ?_); refine goesL_ (some 12) rfl rfl Tryz.func16 (by kernel_rfl) rfl #[.slice Ao33 t522.length co33] rfl (by (try simp only [List.map_toArray, List.map_cons, List.map_nil]); first | done | rfl | (simp only [List.length_drop, List.length_take]; rfl)) ?_; (with_reducible refine (client_Print.calls _ _ t522 t525 t526 _ ?side1 ?side2 A3.out).mono ?_); (case side1 => repeat (first | exact (Kd.S_reads' HO524.out).2.2 | (with_reducible refine Kd.C_alloc ?_ _) | (with_reducible refine Kd.C_drewN ?_ _) | (with_reducible refine Kd.C_drew ?_))); (case side2 => exact (Kd.S_reads' HO524.out).2.1); rintro e w34 ⟨rfl, hb⟩; refine ⟨_, rfl, ?_⟩; have n0_ := Aside0.mk (Kd.S_below (by (with_reducible repeat (first | apply Kd.S_alloc | apply Kd.S_drewN | apply Kd.S_drew)); exact HO524.out) hb); have n1_ := Aside0.mk (below_step (by repeat (first | (with_reducible first | exact HB.out | apply below_alloc | apply pw_below_drewN | apply below_drew1) | exact HB.out)) hb); clear HO524; clear HB; have HO524 := n0_; have HB := n1_; clear n0_ n1_; (try clear hb); (try clear hb2); (try clear hk); (try clear hi)) | ((with_reducible refine gate_callee (f := 18) rfl ?_); refine goesL_ (some 17) rfl rfl Tryz.func18 (by kernel_rfl) rfl #[.slice A0 l0.length c0] rfl (by (try simp only [List.map_toArray, List.map_cons, List.map_nil]); first | done | rfl | (simp only [List.length_drop, List.length_take]; rfl)) ?_; (with_reducible refine (wicketlaw11_all.calls k _ _ l0 t527 _ ?side1 ?side2 A4.out).mono ?_); (case side1 => repeat (first | exact (Kd.C_below HR0.out HB.out) | (with_reducible refine Kd.C_alloc ?_ _) | (with_reducible refine Kd.C_drewN ?_ _) | (with_reducible refine Kd.C_drew ?_))); (case side2 => exact HC0.out); rintro e w35 ⟨v528, rfl, ho0, hb⟩; refine ⟨_, rfl, ?_⟩; have n0_ := Aside0.mk (Kd.S_below (by (with_reducible repeat (first | apply Kd.S_alloc | apply Kd.S_drewN | apply Kd.S_drew)); exact HO524.out) hb); have n1_ := Aside0.mk (Kd.S_lower ho0 (below_size (by repeat (first | (with_reducible first | exact HB.out | apply below_alloc | apply pw_below_drewN | apply below_drew1) | exact HB.out)))); have n2_ := Aside0.mk (below_step (by repeat (first | (with_reducible first | exact HB.out | apply below_alloc | apply pw_below_drewN | apply below_drew1) | exact HB.out)) hb); clear HO524; clear HB; have HO524 := n0_; have HO529 := n1_; have HB := n2_; clear n0_ n1_ n2_; (try clear hb); (try clear hb2); (try clear hk); (try clear hi); (try clear ho0); obtain ⟨Ao36, co36, eo36⟩ := Kd.S_slice HO529.out; subst eo36) | ((with_reducible refine gate_callee (f := 17) rfl ?_); refine goesL_ (some 18) rfl rfl Tryz.func17 (by kernel_rfl) rfl #[.slice Ao36 t527.length co36] rfl (by (try simp only [List.map_toArray, List.map_cons, List.map_nil]); first | done | rfl | (simp only [List.length_drop, List.length_take]; rfl)) ?_; (with_reducible refine (wicketref11_Print.calls k _ _ t527 t530 t531 _ ?side1 ?side2 A5.out).mono ?_); (case side1 => repeat (first | exact (Kd.S_reads' HO529.out).2.2 | (with_reducible refine Kd.C_alloc ?_ _) | (with_reducible refine Kd.C_drewN ?_ _) | (with_reducible refine Kd.C_drew ?_))); (case side2 => exact (Kd.S_reads' HO529.out).2.1); rintro e w37 ⟨rfl, hb⟩; refine ⟨_, rfl, ?_⟩; have n0_ := Aside0.mk (Kd.S_below (by (with_reducible repeat (first | apply Kd.S_alloc | apply Kd.S_drewN | apply Kd.S_drew)); exact HO524.out) hb); have n1_ := Aside0.mk (Kd.S_below (by (with_reducible repeat (first | apply Kd.S_alloc | apply Kd.S_drewN | apply Kd.S_drew)); exact HO529.out) hb); have n2_ := Aside0.mk (below_step (by repeat (first | (with_reducible first | exact HB.out | apply below_alloc | apply pw_below_drewN | apply below_drew1) | exact HB.out)) hb); clear HO524; clear HO529; clear HB; have HO524 := n0_; have HO529 := n1_; have HB := n2_; clear n0_ n1_ n2_; (try clear hb); (try clear hb2); (try clear hk); (try clear hi)) | (go_at_call 19; (with_reducible refine (wicketlaw11_num.calls t526 t532 _ A7.out).mono ?_); rintro e w' ⟨rfl, ⟨nd, rfl⟩⟩))
      go_ret
      exact ⟨by first | rfl | (simp [errW_none, errW_some] <;> rfl) | (simp [*, errW_none, errW_some] <;> rfl) | (simp; (generalize ByteArray.toList _ = z_); cases z_ <;> rfl), by repeat (first | (with_reducible first | exact HB.out | apply below_alloc | apply pw_below_drewN | apply below_drew1) | exact HB.out)⟩
  · rw [if_neg c6] at H
    have c6b0 : (t525.toList == t530.toList) = false := beq_eq_false_iff_ne.mpr c6
    have c6b1 : (t525.toList != t530.toList) = true := bne_iff_ne.mpr c6
    obtain rfl := Option.some.inj H
    go_enter Tryz.func3, Tryz.ntmps3
    go_wp2_with (first | ((with_reducible refine gate_callee (f := 15) rfl ?_); refine goesL_ (some 9) rfl rfl Tryz.func15 (by kernel_rfl) rfl #[.slice A0 l0.length c0] rfl (by (try simp only [List.map_toArray, List.map_cons, List.map_nil]); first | done | rfl | (simp only [List.length_drop, List.length_take]; rfl)) ?_; (with_reducible refine (wicketlaw11_copied.calls k _ _ l0 t522 _ ?side1 ?side2 A2.out).mono ?_); (case side1 => repeat (first | exact HR0.out | (with_reducible refine Kd.C_alloc ?_ _) | (with_reducible refine Kd.C_drewN ?_ _) | (with_reducible refine Kd.C_drew ?_))); (case side2 => exact HC0.out); rintro e w38 ⟨v523, rfl, ho0, hb⟩; refine ⟨_, rfl, ?_⟩; have n0_ := Aside0.mk (Kd.S_lower ho0 (below_size (by repeat (first | (with_reducible first | exact HB.out | apply below_alloc | apply pw_below_drewN | apply below_drew1) | exact HB.out)))); have n1_ := Aside0.mk (below_step (by repeat (first | (with_reducible first | exact HB.out | apply below_alloc | apply pw_below_drewN | apply below_drew1) | exact HB.out)) hb); clear HB; have HO524 := n0_; have HB := n1_; clear n0_ n1_; (try clear hb); (try clear hb2); (try clear hk); (try clear hi); (try clear ho0); obtain ⟨Ao39, co39, eo39⟩ := Kd.S_slice HO524.out; subst eo39) | ((with_reducible refine gate_callee (f := 16) rfl ?_); refine goesL_ (some 12) rfl rfl Tryz.func16 (by kernel_rfl) rfl #[.slice Ao39 t522.length co39] rfl (by (try simp only [List.map_toArray, List.map_cons, List.map_nil]); first | done | rfl | (simp only [List.length_drop, List.length_take]; rfl)) ?_; (with_reducible refine (client_Print.calls _ _ t522 t525 t526 _ ?side1 ?side2 A3.out).mono ?_); (case side1 => repeat (first | exact (Kd.S_reads' HO524.out).2.2 | (with_reducible refine Kd.C_alloc ?_ _) | (with_reducible refine Kd.C_drewN ?_ _) | (with_reducible refine Kd.C_drew ?_))); (case side2 => exact (Kd.S_reads' HO524.out).2.1); rintro e w40 ⟨rfl, hb⟩; refine ⟨_, rfl, ?_⟩; have n0_ := Aside0.mk (Kd.S_below (by (with_reducible repeat (first | apply Kd.S_alloc | apply Kd.S_drewN | apply Kd.S_drew)); exact HO524.out) hb); have n1_ := Aside0.mk (below_step (by repeat (first | (with_reducible first | exact HB.out | apply below_alloc | apply pw_below_drewN | apply below_drew1) | exact HB.out)) hb); clear HO524; clear HB; have HO524 := n0_; have HB := n1_; clear n0_ n1_; (try clear hb); (try clear hb2); (try clear hk); (try clear hi)) | ((with_reducible refine gate_callee (f := 18) rfl ?_); refine goesL_ (some 17) rfl rfl Tryz.func18 (by kernel_rfl) rfl #[.slice A0 l0.length c0] rfl (by (try simp only [List.map_toArray, List.map_cons, List.map_nil]); first | done | rfl | (simp only [List.length_drop, List.length_take]; rfl)) ?_; (with_reducible refine (wicketlaw11_all.calls k _ _ l0 t527 _ ?side1 ?side2 A4.out).mono ?_); (case side1 => repeat (first | exact (Kd.C_below HR0.out HB.out) | (with_reducible refine Kd.C_alloc ?_ _) | (with_reducible refine Kd.C_drewN ?_ _) | (with_reducible refine Kd.C_drew ?_))); (case side2 => exact HC0.out); rintro e w41 ⟨v528, rfl, ho0, hb⟩; refine ⟨_, rfl, ?_⟩; have n0_ := Aside0.mk (Kd.S_below (by (with_reducible repeat (first | apply Kd.S_alloc | apply Kd.S_drewN | apply Kd.S_drew)); exact HO524.out) hb); have n1_ := Aside0.mk (Kd.S_lower ho0 (below_size (by repeat (first | (with_reducible first | exact HB.out | apply below_alloc | apply pw_below_drewN | apply below_drew1) | exact HB.out)))); have n2_ := Aside0.mk (below_step (by repeat (first | (with_reducible first | exact HB.out | apply below_alloc | apply pw_below_drewN | apply below_drew1) | exact HB.out)) hb); clear HO524; clear HB; have HO524 := n0_; have HO529 := n1_; have HB := n2_; clear n0_ n1_ n2_; (try clear hb); (try clear hb2); (try clear hk); (try clear hi); (try clear ho0); obtain ⟨Ao42, co42, eo42⟩ := Kd.S_slice HO529.out; subst eo42) | ((with_reducible refine gate_callee (f := 17) rfl ?_); refine goesL_ (some 18) rfl rfl Tryz.func17 (by kernel_rfl) rfl #[.slice Ao42 t527.length co42] rfl (by (try simp only [List.map_toArray, List.map_cons, List.map_nil]); first | done | rfl | (simp only [List.length_drop, List.length_take]; rfl)) ?_; (with_reducible refine (wicketref11_Print.calls k _ _ t527 t530 t531 _ ?side1 ?side2 A5.out).mono ?_); (case side1 => repeat (first | exact (Kd.S_reads' HO529.out).2.2 | (with_reducible refine Kd.C_alloc ?_ _) | (with_reducible refine Kd.C_drewN ?_ _) | (with_reducible refine Kd.C_drew ?_))); (case side2 => exact (Kd.S_reads' HO529.out).2.1); rintro e w43 ⟨rfl, hb⟩; refine ⟨_, rfl, ?_⟩; have n0_ := Aside0.mk (Kd.S_below (by (with_reducible repeat (first | apply Kd.S_alloc | apply Kd.S_drewN | apply Kd.S_drew)); exact HO524.out) hb); have n1_ := Aside0.mk (Kd.S_below (by (with_reducible repeat (first | apply Kd.S_alloc | apply Kd.S_drewN | apply Kd.S_drew)); exact HO529.out) hb); have n2_ := Aside0.mk (below_step (by repeat (first | (with_reducible first | exact HB.out | apply below_alloc | apply pw_below_drewN | apply below_drew1) | exact HB.out)) hb); clear HO524; clear HO529; clear HB; have HO524 := n0_; have HO529 := n1_; have HB := n2_; clear n0_ n1_ n2_; (try clear hb); (try clear hb2); (try clear hk); (try clear hi)))
    go_ret
    exact ⟨by first | rfl | (simp [errW_none, errW_some] <;> rfl) | (simp [*, errW_none, errW_some] <;> rfl) | (simp; (generalize ByteArray.toList _ = z_); cases z_ <;> rfl), by repeat (first | (with_reducible first | exact HB.out | apply below_alloc | apply pw_below_drewN | apply below_drew1) | exact HB.out)⟩
end Go.Proofs.YtmimipgmhgalaaaGreatDoor.PAll
end
section
namespace Go.Proofs.YtmimipgmhgalaaaGreatDoor.Pure
open Go.RowKit Go.Proofs.YtmimipgmhgalaaaGreatDoorW.PrintWords Go.Proofs.YtmimipgmhgalaaaGreatDoor.Plain Go.Proofs.YtmimipgmhgalaaaGreatDoor.PAll
set_option linter.unusedVariables false
theorem ClientPrints (l : List CC)
    (ok : l.length * 88 ≤ 140737488351232 ∧ ∀ y, y ∈ l → (y.f0.size ≤ 140737488351232) ∧ (y.f1.size ≤ 140737488351232) ∧ ((Lit.int .i64 y.f2).wf = true) ∧ (True) ∧ (y.f4.size ≤ 140737488351232) ∧ (y.f5.length * 16 ≤ 140737488351232 ∧ ∀ z, z ∈ y.f5 → z.size ≤ 140737488351232))
    (hb : ((l.map weightC).sum + 1) ≤ 1048576) : ∃ k, wicketlaw11_ClientPrints.f k l = some true := by
  have hl := smallC_of l _ (Nat.le_refl _) (by omega)
  have hs := small_weight l _ (Nat.le_refl _) (by omega)
  refine Ev.rounds ?_
  unfold wicketlaw11_ClientPrints.f
  refine Ev.bind (copied_ev l hl) ?_
  rw [print_some l hs]
  refine Ev.bind (Ev.now _) (Ev.bind (all_ev l hl) (Ev.bind (refPrint_ev l hl hs) (Ev.pos rfl (Ev.bind (Ev.now _) (Ev.pos rfl (Ev.bind (all_ev l hl) (Ev.bind (list_ev l hl) (Ev.pos rfl ?_))))))))
  exact Ev.now _
end Go.Proofs.YtmimipgmhgalaaaGreatDoor.Pure
end
section
namespace Go.Proofs.YtmimipgmhgalaaaGreatDoor.Open
open Go.ChangeShapes Go.WideShapes Go.ChangeAt Go.RowKit Go.Proofs.YtmimipgmhgalaaaGreatDoorW.PrintWords
def Opens {α : Type} (P : Program) (T : TypeId) (d : Kd α) (m : α → Nat) (ok : α → Prop) : Prop :=
  ∀ (H : Type) (enc : TypeId × Value → H) (w : World) (base : Nat) (spare : Nat → Bool) (held : Bool) (fuel : Nat) (cs : List Value) (x : DataW H × List MemPlace),
    DataW.trod enc P w base spare held fuel T cs = some x → ∃ a, d.K w a cs ∧ m a ≤ Rows.uptoBulk x.1 ∧ ((DataW.weights P T x.1).all (· ≤ reachBytes) = true → ok a)
theorem opens_string {P : Program} {T : TypeId} (hu : P.underlying T = some .string) : Opens P T Kd.string (fun s => s.size + 1) (fun s => s.size ≤ 140737488351232) := by
  intro H enc w base spare held fuel cs x h
  obtain ⟨s, rfl, rfl, _⟩ := DataW.trod_string hu h
  refine ⟨s, rfl, ?_, fun hw => ?_⟩
  · simp [Rows.uptoBulk]
  · simp only [DataW.weights, List.all_cons, List.all_nil, Bool.and_true, reachBytes, Array.length_toList] at hw
    exact of_decide_eq_true hw
theorem opens_int {P : Program} {T : TypeId} {k : IntKind} (hu : P.underlying T = some (.int k)) : Opens P T (Kd.int k) (fun _ => 1) (fun n => (Lit.int k n).wf = true) := by
  intro H enc w base spare held fuel cs x h
  obtain ⟨n, rfl, rfl, hw⟩ := DataW.trod_int hu h
  exact ⟨n, rfl, by simp [Rows.uptoBulk], fun _ => hw⟩
theorem opens_bool {P : Program} {T : TypeId} (hu : P.underlying T = some .bool) : Opens P T Kd.bool (fun _ => 1) (fun _ => True) := by
  intro H enc w base spare held fuel cs x h
  have h' : ∃ b, cs = [.bool b] ∧ x = (.lit (.bool b), []) := by
    cases fuel with
    | zero => simp [DataW.trod] at h
    | succ n =>
      unfold DataW.trod at h
      rw [hu] at h
      split at h <;> simp_all
  obtain ⟨b, rfl, rfl⟩ := h'
  exact ⟨b, rfl, by simp [Rows.uptoBulk], fun _ => trivial⟩
theorem cells?_at {w : World} {base : Nat} {a : Addr} {n : Nat} {cs : List Value} (h : w.cells? base a n = some cs) : cs.length = n ∧ ∀ (i : Nat) (u : Value), cs[i]? = some u → w.cell? (a.add i) = some u := by
  unfold World.cells? at h
  split at h
  · refine ⟨by simpa using mapM_some_length h, fun i u hu => ?_⟩
    have hi : i < n := by
      have h1 := (List.getElem?_eq_some_iff.1 hu).1
      have h2 : cs.length = n := by simpa using mapM_some_length h
      omega
    have := mapM_some_get h i i (by simp [hi])
    rw [this, hu]
  · cases h
theorem bulk_all_le {H : Type} {α : Type} {m : α → Nat} : ∀ (l : List α) (ys : List (DataW H)), l.length ≤ ys.length → (∀ (i : Nat) (a : α) (y : DataW H), l[i]? = some a → ys[i]? = some y → m a ≤ Rows.uptoBulk y) → (l.map m).sum ≤ Rows.uptoBulkAll ys
  | [], ys, _, _ => by simp
  | a :: l, [], hl, _ => by simp at hl
  | a :: l, y :: ys, hl, h => by
    have h0 := h 0 a y rfl rfl
    have h1 := bulk_all_le l ys (by simpa using hl) (fun i b z hb hz => h (i + 1) b z (by simpa using hb) (by simpa using hz))
    simp only [List.map_cons, List.sum_cons, Rows.uptoBulkAll]
    omega
theorem weights_all_at {H : Type} (P : Program) (e : TypeId) : ∀ (ys : List (DataW H)), (DataW.weightsAll P e ys).all (· ≤ reachBytes) = true → ∀ (i : Nat) (y : DataW H), ys[i]? = some y → (DataW.weights P e y).all (· ≤ reachBytes) = true
  | [], _, i, y, hy => by simp at hy
  | z :: ys, h, i, y, hy => by
    rw [DataW.weightsAll, List.all_append, Bool.and_eq_true] at h
    cases i with
    | zero => simp at hy; subst hy; exact h.1
    | succ i => exact weights_all_at P e ys h.2 i y (by simpa using hy)
theorem choose_list {α β : Type} {n : Nat} {ys : List β} (hn : ys.length = n) {Q : Nat → β → α → Prop} (h : ∀ (i : Nat) (y : β), ys[i]? = some y → ∃ a, Q i y a) : ∃ l : List α, l.length = n ∧ ∀ (i : Nat) (y : β) (a : α), ys[i]? = some y → l[i]? = some a → Q i y a := by
  induction ys generalizing n Q with
  | nil => exact ⟨[], by simpa using hn, by simp⟩
  | cons y ys ih =>
    obtain ⟨a, ha⟩ := h 0 y rfl
    obtain ⟨l, hl, hq⟩ := ih (n := ys.length) rfl (Q := fun i => Q (i + 1)) (fun i z hz => h (i + 1) z (by simpa using hz))
    refine ⟨a :: l, by simp at hn ⊢; omega, fun i z b hz hb => ?_⟩
    cases i with
    | zero => simp at hz hb; subst hz hb; exact ha
    | succ i => exact hq i z b (by simpa using hz) (by simpa using hb)
theorem opens_slice {α : Type} {P : Program} {T e : TypeId} {d : Kd α} {m : α → Nat} {ok : α → Prop} {B : Nat} (hu : P.underlying T = some (.slice e)) (ho : Opens P e d m ok) (hc : P.cellsOf e = d.sz) (hB : P.bytesOf e = B) :
    Opens P T (Kd.slice e d) (fun l => (l.map m).sum + 1) (fun l => l.length * B ≤ 140737488351232 ∧ ∀ a, a ∈ l → ok a) := by
  intro H enc w base spare held fuel cs x h
  rcases DataW.trod_slice hu h with ⟨rfl, rfl⟩ | ⟨a, len, cap, elems, rest, n, _, rfl, rfl, hb, hl, hm, hlen, hel, hsp, hns⟩
  · refine ⟨[], ⟨none, 0, rfl, Nat.le_refl _, rfl, by simp, fun h => absurd h (by simp)⟩, by simp [Rows.uptoBulk], fun _ => ⟨by simp, by simp⟩⟩
  · have each : ∀ (i : Nat) (y : DataW H × List MemPlace), elems[i]? = some y → ∃ b : α, (∃ c, d.K w b c ∧ c.length = d.sz ∧ ∀ (j : Nat) (u : Value), c[j]? = some u → w.cell? ((a.add (i * d.sz)).add j) = some u) ∧ m b ≤ Rows.uptoBulk y.1 ∧ ((DataW.weights P e y.1).all (· ≤ reachBytes) = true → ok b) := by
      intro i y hy
      have hi : i < len := by rw [← hlen]; exact (List.getElem?_eq_some_iff.1 hy).1
      have h1 := hel i hi
      rw [hy, Option.bind_eq_some_iff] at h1
      obtain ⟨c, hcs, ht⟩ := h1
      obtain ⟨b, hk, hm', hok⟩ := ho H enc w base spare held n c y ht
      rw [hc] at hcs
      obtain ⟨hcl, hcc⟩ := cells?_at hcs
      exact ⟨b, ⟨c, hk, hcl, hcc⟩, hm', hok⟩
    obtain ⟨l, hll, hq⟩ := choose_list hlen each
    have hget : ∀ (i : Nat) (b : α), l[i]? = some b → ∃ y, elems[i]? = some y := fun i b hb => by
      have hi : i < l.length := (List.getElem?_eq_some_iff.1 hb).1
      exact ⟨elems[i]'(by omega), List.getElem?_eq_getElem (by omega)⟩
    refine ⟨l, ⟨some a, cap, by rw [hll], by omega, ⟨rfl, by unfold maxLen at hm; omega, fun _ => ⟨a, rfl, fun j p hp => ?_⟩⟩⟩, ?_, fun hw => ?_⟩
    · obtain ⟨y, hy⟩ := hget j p hp
      obtain ⟨⟨c, hk, hcl, hcc⟩, _⟩ := hq j y p hy hp
      exact ⟨c, hcl, hk, fun i u hu' => by rw [← add_add]; exact hcc i u hu'⟩
    · have h1 := bulk_all_le l (elems.map (·.1)) (by simp; omega) (fun i b y hb hy => by
        simp only [List.getElem?_map, Option.map_eq_some_iff] at hy
        obtain ⟨z, hz, rfl⟩ := hy
        exact (hq i z b hz hb).2.1)
      simp only [Rows.uptoBulk]
      omega
    · rw [DataW.weights, hu] at hw
      simp only [hB] at hw
      simp only [List.all_cons, Bool.and_eq_true, List.all_append, decide_eq_true_eq, List.length_map, hlen] at hw
      refine ⟨?_, fun b hb => ?_⟩
      · rw [hll]
        have := hw.1
        unfold reachBytes at this
        exact Nat.le_trans (Nat.mul_le_mul_right _ (by omega)) this
      · obtain ⟨i, hi⟩ := List.getElem?_of_mem hb
        obtain ⟨y, hy⟩ := hget i b hi
        exact (hq i y b hy hi).2.2 (weights_all_at P e _ hw.2.1 i y.1 (by simp [hy]))
theorem arg_slice {α : Type} {H : Type} {enc : TypeId × Value → H} {P : Program} {W : World} {base b0 : Nat} {r : Reach} {spare : Nat → Bool} {held : Bool} {T e : TypeId} {d : Kd α} {m : List α → Nat} {ok : List α → Prop} {v : Value} {x : DataW H} {ps : List MemPlace}
    (hu : P.underlying T = some (.slice e)) (ho : Opens P T (Kd.slice e d) m ok) (hv : Value.okWide P W r b0 T v) (h : DataW.Trod enc P W base spare held T v x ps) :
    ∃ (l : List α) (A : Option Addr) (c : Nat), v = .slice A l.length c ∧ l.length ≤ c ∧ Kd.C d W A l.length l ∧ m l ≤ Rows.uptoBulk x ∧ ((DataW.weights P T x).all (· ≤ reachBytes) = true → ok l) := by
  obtain ⟨a, len, cap, rfl⟩ := okWide_slice hu hv
  obtain ⟨fuel, hf⟩ := h
  obtain ⟨l, ⟨A, c, hcs, hlc, hC⟩, hm, hok⟩ := ho H enc W base spare held fuel _ _ hf
  simp only [Value.cells, List.cons.injEq, and_true] at hcs
  exact ⟨l, A, c, hcs, hlc, hC, hm, hok⟩
theorem trod_lt' {H : Type} {enc : TypeId × Value → H} {P : Program} {W : World} {spare : Nat → Bool} {held : Bool} {T : TypeId} {v : Value} {x : DataW H} {ps : List MemPlace}
    (h : DataW.Trod enc P W 0 spare held T v x ps) : ∀ y ∈ ps, y.block < W.heap.size := by
  obtain ⟨m, hm⟩ := h
  exact DataW.trod_lt m _ _ _ hm
end Go.Proofs.YtmimipgmhgalaaaGreatDoor.Open
end
