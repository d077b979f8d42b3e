/-
  client.same: are two texts the same: what the call does, walked.
-/
import Derived.Test.YtmimipgmhgalaaaGreatDoorPAllx1
import Derived.Test.YtmimipgmhgalaaaGreatDoorPure11a
import Derived.Lib.ConvBytes
import Derived.Laws.BitsLemmas
namespace Go.Proofs.YtmimipgmhgalaaaGreatDoor.PAll
open Go.RowKit Go.Proofs.YtmimipgmhgalaaaGreatDoorW.PrintWords Go.Proofs.YtmimipgmhgalaaaGreatDoor.Plain Go.Proofs.YtmimipgmhgalaaaGreatDoor.Pure
set_option linter.unusedVariables false
theorem C_bytes (w : World) (s : ByteArray) (hs : s.size ≤ 9223372036854775807) : Kd.C (Kd.int .u8) (Lib.bytesWorld w 5 s) (some ⟨w.heap.size, 0, none⟩) (bytesOf s).length (bytesOf s) := by
  refine Kd.C_of_reads (enc := Value.int .u8) (d := (0 : Int)) (h1 := fun _ => rfl) ⟨rfl, by rw [bytesOf_length]; exact hs, fun h0 => ⟨_, rfl, fun j hj => ?_⟩⟩
  rw [bytesOf_length] at hj
  have h := Lib.bytesWorld_cell w 5 s j hj
  have e : (Addr.mk w.heap.size 0 none).add j = ⟨w.heap.size, j, none⟩ := by
    unfold Addr.add
    by_cases h0 : j = 0
    · subst h0; rfl
    · rw [if_neg h0]; simp
  rw [e, h]
  have hl : j < s.data.toList.length := by rw [Array.length_toList]; exact hj
  congr 2
  simp [bytesOf, List.getD]
  cases s.data[j]? <;> simp
theorem below_bytes (w : World) (s : ByteArray) : Below w.heap.size w (Lib.bytesWorld w 5 s) := by
  refine ⟨rfl, rfl, rfl, ?_, fun k hk => Lib.bytesWorld_at_old w 5 s k hk⟩
  rw [Lib.bytesWorld_size]; omega
theorem xor_nat (x y : Nat) (hx : x < 256) (hy : y < 256) : Go.bits .xor .u8 (x : Int) (y : Int) = ((x ^^^ y : Nat) : Int) ∧ x ^^^ y < 256 := by
  have h := Nat.xor_lt_two_pow (n := 8) hx hy
  refine ⟨?_, h⟩
  simp only [bits, BitVec.ofInt_natCast, BitVec.toNat_xor, BitVec.toNat_ofNat]
  rw [show (2 : Nat) ^ IntKind.u8.bits = 256 from rfl, Nat.mod_eq_of_lt hx, Nat.mod_eq_of_lt hy]
  exact wraps_u8 _ (by omega) (by omega)
theorem or_xor (d x y : Nat) (hd : d < 256) (hx : x < 256) (hy : y < 256) : ∃ n : Nat, n < 256 ∧ Go.bits .or .u8 (d : Int) (Go.bits .xor .u8 (x : Int) (y : Int)) = (n : Int) ∧ (n = 0 ↔ d = 0 ∧ x = y) := by
  obtain ⟨h1, h2⟩ := xor_nat x y hx hy
  have h3 := (bits_nat .u8 8 (by decide) wraps_u8 d (x ^^^ y) hd h2).2
  refine ⟨d ||| (x ^^^ y), Nat.or_lt_two_pow (n := 8) hd h2, by rw [h1, h3], ?_⟩
  rw [Nat.or_eq_zero_iff]
  have hx : x ^^^ y = 0 ↔ x = y := by
    constructor
    · intro h
      have h5 := congrArg (fun z => z ^^^ y) h
      simpa [Nat.xor_assoc] using h5
    · rintro rfl; simp
  rw [hx]
theorem rd_bytes (s : ByteArray) (i : Nat) (h : i < s.size) : rd (bytesOf s) (i : Int) = (s[i].toNat : Int) := by
  have h1 : i < s.data.toList.length := by rw [Spec.data_len]; exact h
  unfold rd bytesOf
  rw [Int.toNat_natCast, List.getD_eq_getElem?_getD, List.getElem?_map, List.getElem?_eq_getElem h1]
  rfl
theorem same_loop (a b : ByteArray) (hl : a.size = b.size) (hs : a.size ≤ 140737488355328) : ∀ (m i d : Nat), i + m = a.size → d < 256 →
    Ev (fun k => digest_Same.l0 k (bytesOf a) (bytesOf b) (d : Int) (a.size : Int) (i : Int)) (decide (d = 0) && decide (a.data.toList.drop i = b.data.toList.drop i)) := by
  have hal := bytesOf_length a
  have hbl := bytesOf_length b
  intro m
  induction m with
  | zero =>
    intro i d hi hd
    rw [List.drop_eq_nil_of_le (by rw [Spec.data_len]; omega), List.drop_eq_nil_of_le (by rw [Spec.data_len]; omega)]
    refine Ev.step (f := fun _ => some ((d : Int) == 0)) (fun k => ?_) (Ev.eq (Ev.now _) ?_)
    · simp only [digest_Same.l0]
      rw [if_neg (by omega)]
    · rw [decide_eq_true rfl, Bool.and_true, Bool.eq_iff_iff]; simp
  | succ m ih =>
    intro i d hi hd
    have ha : i < a.size := by omega
    have hb : i < b.size := by omega
    have ra := rd_bytes a i ha
    have rb := rd_bytes b i hb
    obtain ⟨n, hn, he, hz⟩ := or_xor d a[i].toNat b[i].toNat hd a[i].toNat_lt b[i].toNat_lt
    refine Ev.step (fun k => ?_) (Ev.eq (ih (i + 1) n (by omega) hn) ?_)
    · simp only [digest_Same.l0]
      rw [if_pos (by omega), if_pos (by omega), if_pos (by omega), if_pos (by omega), ra, rb, he, w64 (by omega) (by omega)]
      rfl
    · rw [Spec.drop_at a i ha, Spec.drop_at b i hb, Bool.eq_iff_iff]
      simp only [Bool.and_eq_true, decide_eq_true_eq, List.cons.injEq, hz]
      constructor
      · rintro ⟨⟨h1, h2⟩, h3⟩
        exact ⟨h1, UInt8.toNat_inj.1 h2, h3⟩
      · rintro ⟨h1, h2, h3⟩
        exact ⟨⟨h1, by rw [h2]⟩, h3⟩
theorem same_ev (a b : ByteArray) (hs : a.size ≤ 140737488355328) : Ev (fun k => digest_Same.f k (bytesOf a) (bytesOf b)) (decide (a = b)) := by
  have hal := bytesOf_length a
  have hbl := bytesOf_length b
  unfold digest_Same.f
  by_cases hl : a.size = b.size
  · refine Ev.pos (by omega) ?_
    have h := same_loop a b hl hs a.size 0 0 (by omega) (by omega)
    rw [List.drop_zero, List.drop_zero, decide_eq_true rfl, Bool.true_and] at h
    rw [hal]
    refine Ev.eq h ?_
    rw [decide_eq_decide]
    constructor
    · intro e
      have := congrArg Spec.bs e
      rwa [Spec.bs_of, Spec.bs_of] at this
    · intro e; rw [e]
  · refine Ev.neg (by omega) (Ev.eq (Ev.now _) ?_)
    rw [eq_comm, decide_eq_false_iff_not]
    intro e; exact hl (by rw [e])
def client_same.f (a0 a1 : ByteArray) : Option Bool := if a0.size ≤ 140737488355328 ∧ a1.size ≤ 140737488355328 then some (decide (a0 = a1)) else none
set_option maxHeartbeats 4000000 in
set_option maxRecDepth 100000 in
theorem client_same.calls (a0 a1 : ByteArray) (r1 : Bool) (w : World) (h : client_same.f a0 a1 = some r1) :
    Calls Tryz.prog 109 #[.string a0, .string a1] w fun e w' => e = .returned (.bool r1) ∧ Below w.heap.size w w' := by
  unfold client_same.f at h
  split at h
  · rename_i hs
    obtain rfl := Option.some.inj h
    obtain ⟨k, hk⟩ := Ev.rounds (same_ev a0 a1 hs.1)
    have c1 := Lib.run_convert_string_bytes w 9 79 5 a0 Tryz.underlying9 Tryz.underlying79 Tryz.underlying5
    have c2 := Lib.run_convert_string_bytes (Lib.bytesWorld w 5 a0) 9 79 5 a1 Tryz.underlying9 Tryz.underlying79 Tryz.underlying5
    have b1 := below_bytes w a0
    have b2 := below_bytes (Lib.bytesWorld w 5 a0) a1
    have hB := b1.trans (b2.mono b1.size)
    have k1 := Kd.C_below (C_bytes w a0 (by omega)) b2
    have k2 := C_bytes (Lib.bytesWorld w 5 a0) a1 (by omega)
    have g1 : (bytesOf a0).length ≤ grownCap w a0.size 0 5 := by rw [bytesOf_length]; exact grownCap_ge ..
    have g2 : (bytesOf a1).length ≤ grownCap (Lib.bytesWorld w 5 a0) a1.size 0 5 := by rw [bytesOf_length]; exact grownCap_ge ..
    have hcall := digest_Same.calls k _ _ (bytesOf a0) _ _ (bytesOf a1) _ _ k1 g1 k2 g2 hk
    rw [bytesOf_length, bytesOf_length, Lib.bytesWorld_size] at hcall
    rw [Lib.bytesWorld_size] at c2
    clear k1 k2 g1 g2 b1 b2 hk
    go_enter Tryz.func109, Tryz.ntmps109
    go_wp2_with (go_at_call 137; refine hcall.mono ?_; rintro e w1 ⟨rfl, hd⟩)
    go_ret
    exact ⟨rfl, hB.trans ((hd.below).mono hB.size)⟩
  · cases h
end Go.Proofs.YtmimipgmhgalaaaGreatDoor.PAll
