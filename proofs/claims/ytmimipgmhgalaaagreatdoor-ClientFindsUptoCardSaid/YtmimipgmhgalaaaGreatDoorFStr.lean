/-
  Functions of the strings and slices packages that the clients' code calls, over this seat's numbers; what they ask stands in their '.f'.
-/
import Derived.Test.YtmimipgmhgalaaaGreatDoorShelf
import Derived.Test.YtmimipgmhgalaaaGreatDoorWWords
import Derived.Test.YtmimipgmhgalaaaGreatDoorFSplit
namespace Go.Proofs.YtmimipgmhgalaaaGreatDoor.PAll
open Go.RowKit Go.Proofs.YtmimipgmhgalaaaGreatDoorW.PrintWords
set_option linter.unusedVariables false
def asciiS (s : ByteArray) : Bool := s.data.toList.all fun b => decide (b.toNat < 128)
theorem asciiS_at {s : ByteArray} (h : asciiS s = true) : ∀ (j : Nat) (b : UInt8), s.data.toList[j]? = some b → b.toNat < 128 := by
  intro j b hb
  unfold asciiS at h
  rw [List.all_eq_true] at h
  have hm : b ∈ s.data.toList := List.mem_of_getElem? hb
  simpa using h b hm

def strings_HasPrefix.f (a0 a1 : ByteArray) : Option Bool := some (Lib.hasPrefix a0.data.toList a1.data.toList)
theorem strings_HasPrefix.calls (a0 a1 : ByteArray) (r1 : Bool) (w : World) (h : strings_HasPrefix.f a0 a1 = some r1) :
    Calls Tryz.prog 53 #[.string a0, .string a1] w fun e w' => e = .returned (.bool r1) ∧ Below w.heap.size w w' := by
  obtain rfl := Option.some.inj h
  exact (Tryz.strings_HasPrefix a0 a1 w).mono fun e w' ⟨he, hw⟩ => ⟨he, hw ▸ Below.refl _ _⟩

def strings_TrimSuffix.f (a0 a1 : ByteArray) : Option ByteArray := if a0.size ≤ 9223372036854775807 then some ⟨(Lib.trimSuffix a0.data.toList a1.data.toList).toArray⟩ else none
theorem strings_TrimSuffix.calls (a0 a1 : ByteArray) (r1 : ByteArray) (w : World) (h : strings_TrimSuffix.f a0 a1 = some r1) :
    Calls Tryz.prog 97 #[.string a0, .string a1] w fun e w' => e = .returned (.string r1) ∧ Below w.heap.size w w' := by
  unfold strings_TrimSuffix.f at h
  split at h
  · rename_i hs
    obtain rfl := Option.some.inj h
    exact (Tryz.strings_TrimSuffix a0 a1 w hs).mono fun e w' ⟨he, hw⟩ => ⟨he, hw ▸ Below.refl _ _⟩
  · cases h

def strings_TrimLeft.f (a0 a1 : ByteArray) : Option ByteArray := if a1.size = 1 ∧ asciiS a1 = true then some ⟨(Lib.trimLeftB a0.data.toList (a1.data.toList.headD 0)).toArray⟩ else none
theorem strings_TrimLeft.calls (a0 a1 : ByteArray) (r1 : ByteArray) (w : World) (h : strings_TrimLeft.f a0 a1 = some r1) :
    Calls Tryz.prog 64 #[.string a0, .string a1] w fun e w' => e = .returned (.string r1) ∧ Below w.heap.size w w' := by
  unfold strings_TrimLeft.f at h
  split at h
  · rename_i hs
    obtain ⟨c, rfl⟩ := Lib.one_byte a1 hs.1
    obtain rfl := Option.some.inj h
    exact (Tryz.strings_TrimLeft_one a0 c (asciiS_at hs.2 0 c rfl) w).mono fun e w' ⟨he, hw⟩ => ⟨he, hw ▸ Below.refl _ _⟩
  · cases h

def strings_EqualFold.f (a0 a1 : ByteArray) : Option Bool := if a0.size < 4294967281 ∧ asciiS a0 = true ∧ asciiS a1 = true then some (Lib.equalFold a0.data.toList a1.data.toList) else none
theorem strings_EqualFold.calls (a0 a1 : ByteArray) (r1 : Bool) (w : World) (h : strings_EqualFold.f a0 a1 = some r1) :
    Calls Tryz.prog 62 #[.string a0, .string a1] w fun e w' => e = .returned (.bool r1) ∧ Below w.heap.size w w' := by
  unfold strings_EqualFold.f at h
  split at h
  · rename_i hs
    obtain rfl := Option.some.inj h
    exact (Tryz.strings_EqualFold a0 a1 w hs.1 (asciiS_at hs.2.1) (asciiS_at hs.2.2)).mono fun e w' ⟨he, hw⟩ => ⟨he, hw ▸ Below.refl _ _⟩
  · cases h

/-- A row of strings that came in: its cells. -/
theorem C_cells {w : World} {A : Option Addr} {n : Nat} {l : List ByteArray} (h : Kd.C Kd.string w A n l) (h0 : l ≠ []) : ∃ ad : Addr, A = some ad ∧ ∀ (j : Nat) x, l[j]? = some x → w.cell? (ad.add j) = some (.string x) := by
  have hl := h.1
  have hr := Kd.reads_of_C (enc := Value.string) (d := ByteArray.empty) (h1 := fun _ => rfl) h
  have hpos := List.length_pos_iff.2 h0
  obtain ⟨ad, e, hc⟩ := hr.2.2 (by omega)
  refine ⟨ad, e, fun j x hx => ?_⟩
  have hj := (List.getElem?_eq_some_iff.1 hx).1
  rw [hc j (by omega)]
  congr 2
  rw [List.getD_eq_getElem?_getD, hx]
  rfl
theorem whole {w : World} {a : Addr} {v : Value} (h : w.cell? a = some v) : a.spot = none := by
  unfold World.cell? at h
  split at h
  · split at h
    · cases h
    · rename_i hs
      simpa using hs
  · cases h
theorem C_addr {w : World} {A : Option Addr} {n : Nat} {l : List ByteArray} (h : Kd.C Kd.string w A n l) (h0 : l ≠ []) : ∃ b o : Nat, A = some ⟨b, o, none⟩ ∧ b < w.heap.size ∧ ∀ (j : Nat) x, l[j]? = some x → w.cell? ⟨b, o + j, none⟩ = some (.string x) := by
  obtain ⟨ad, e, hc⟩ := C_cells h h0
  have hpos := List.length_pos_iff.2 h0
  have h1 := hc 0 l[0] (List.getElem?_eq_getElem hpos)
  have hs := whole h1
  obtain ⟨b, o, sp⟩ := ad
  have hs' : sp = none := hs
  subst hs'
  exact ⟨b, o, e, World.block_lt_of_cell? w _ h1, fun j x hx => by
    have hj := hc j x hx
    unfold Addr.add at hj
    by_cases h0 : j = 0
    · subst h0; exact hj
    · rw [if_neg h0] at hj; exact hj⟩

def strings_Join.f (l0 : List ByteArray) (a1 : ByteArray) : Option ByteArray :=
  if l0.length ≤ 140737488355328 ∧ (Lib.join (l0.map (·.data.toList)) a1.data.toList).length ≤ 140737488355328 then some ⟨(Lib.join (l0.map (·.data.toList)) a1.data.toList).toArray⟩ else none
theorem strings_Join.calls (A0 : Option Addr) (c0 : Nat) (l0 : List ByteArray) (a1 : ByteArray) (r1 : ByteArray) (w : World) (hr0 : Kd.C Kd.string w A0 l0.length l0) (hc0 : l0.length ≤ c0) (h : strings_Join.f l0 a1 = some r1) :
    Calls Tryz.prog 55 #[.slice A0 l0.length c0, .string a1] w fun e w' => e = .returned (.string r1) ∧ Below w.heap.size w w' := by
  unfold strings_Join.f at h
  split at h
  · rename_i hs
    obtain rfl := Option.some.inj h
    by_cases h0 : l0 = []
    · subst h0
      exact (Tryz.strings_Join_none A0 c0 a1 w).mono fun e w' ⟨he, hw⟩ => ⟨he, hw ▸ Below.refl _ _⟩
    · obtain ⟨b, o, rfl, hb, hc⟩ := C_addr hr0 h0
      exact Tryz.strings_Join b o c0 l0 a1 w hc hb hs.1 hc0 hs.2
  · cases h

def slices_Equal_string_string.f (l0 l1 : List ByteArray) : Option Bool := some (decide (l0 = l1))
theorem slices_Equal_string_string.calls (A0 : Option Addr) (c0 : Nat) (l0 : List ByteArray) (A1 : Option Addr) (c1 : Nat) (l1 : List ByteArray) (r1 : Bool) (w : World) (hr0 : Kd.C Kd.string w A0 l0.length l0) (hc0 : l0.length ≤ c0) (hr1 : Kd.C Kd.string w A1 l1.length l1) (hc1 : l1.length ≤ c1)
    (h : slices_Equal_string_string.f l0 l1 = some r1) :
    Calls Tryz.prog 56 #[.slice A0 l0.length c0, .slice A1 l1.length c1] w fun e w' => e = .returned (.bool r1) ∧ Below w.heap.size w w' := by
  obtain rfl := Option.some.inj h
  by_cases hl : l0.length = l1.length
  · by_cases h0 : l0 = []
    · subst h0
      have h1 : l1 = [] := List.eq_nil_of_length_eq_zero hl.symm
      subst h1
      exact (Tryz.slices_Equal_string_empty A0 A1 c0 0 c1 w (by omega)).mono fun e w' ⟨he, hw⟩ => ⟨he, hw ▸ Below.refl _ _⟩
    · have h1 : l1 ≠ [] := by rintro rfl; simp at hl; exact h0 hl
      obtain ⟨b0, o0, rfl, _, hcc0⟩ := C_addr hr0 h0
      obtain ⟨b1, o1, rfl, _, hcc1⟩ := C_addr hr1 h1
      have hn0 := hr0.2.1
      have hn1 := hr1.2.1
      refine (Tryz.slices_Equal_string b0 o0 l0.length c0 b1 o1 l1.length c1 l0 l1 w (Nat.le_refl _) (Nat.le_refl _) hn0 hn1 (fun j hj => ?_) (fun j hj => ?_)).mono fun e w' ⟨he, q, hw⟩ => ⟨?_, ?_⟩
      · rw [hcc0 j l0[j] (List.getElem?_eq_getElem hj), List.getD_eq_getElem?_getD, List.getElem?_eq_getElem hj]; rfl
      · rw [hcc1 j l1[j] (List.getElem?_eq_getElem hj), List.getD_eq_getElem?_getD, List.getElem?_eq_getElem hj]; rfl
      · rw [he, List.take_length, List.take_length]
      · rw [hw]; exact pw_below_drewN (Below.refl _ _) q
  · have hne : ¬ l0 = l1 := fun e => hl (by rw [e])
    rw [decide_eq_false hne]
    exact (Tryz.slices_Equal_string_lens A0 A1 l0.length c0 l1.length c1 w hl).mono fun e w' ⟨he, hw⟩ => ⟨he, hw ▸ Below.refl _ _⟩

theorem R_of_own {w : World} {base : Nat} {v : Value} {l : List ByteArray} (h : w.ownsRow base 9 1 v l.length (l.map Value.string)) : Kd.R Kd.string 9 w base (fun _ => True) v l :=
  ⟨fun _ _ => trivial, l.map Value.string, h, reps_strings l⟩
def slices_Clone_string_string.f (l0 : List ByteArray) : Option (List ByteArray) := if l0.length * 16 ≤ 140737488355328 then some l0 else none
theorem slices_Clone_string_string.calls (A0 : Option Addr) (c0 : Nat) (l0 : List ByteArray) (r : List ByteArray) (w : World) (hr0 : Kd.C Kd.string w A0 l0.length l0) (hc0 : l0.length ≤ c0) (h : slices_Clone_string_string.f l0 = some r) :
    Calls Tryz.prog 93 #[.slice A0 l0.length c0] w fun e w' => ∃ v0_ : Value, e = .returned v0_ ∧ Kd.R Kd.string 9 w' w.heap.size (fun _ => True) v0_ r ∧ Below w.heap.size w w' := by
  unfold slices_Clone_string_string.f at h
  split at h
  · rename_i hs
    obtain rfl := Option.some.inj h
    by_cases h0 : l0 = []
    · subst h0
      cases A0 with
      | none => exact (Tryz.slices_Clone_string_nil 0 c0 w).mono fun e w' ⟨he, hw⟩ => ⟨_, he, hw ▸ Kd.R_nil _ _ _ _ _, hw ▸ Below.refl _ _⟩
      | some a => exact (Tryz.slices_Clone_string_zero a c0 w).mono fun e w' ⟨v, he, ho, _, hb⟩ => ⟨v, he, R_of_own ho, hb⟩
    · obtain ⟨b, o, rfl, _, hcc⟩ := C_addr hr0 h0
      refine (Tryz.slices_Clone_string b o l0.length c0 l0 w (Nat.le_refl _) hs (fun j hj => ?_)).mono fun e w' ⟨v, he, ho, _, hb⟩ => ⟨v, he, R_of_own ?_, hb⟩
      · rw [hcc j l0[j] (List.getElem?_eq_getElem hj), List.getD_eq_getElem?_getD, List.getElem?_eq_getElem hj]; rfl
      · rw [List.take_length] at ho; exact ho
  · cases h
end Go.Proofs.YtmimipgmhgalaaaGreatDoor.PAll
