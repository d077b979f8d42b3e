/-
  The codes' calls by the plain law; DigestBack.
-/
import Derived.Test.YtfedlgcpgfofjaaDoorPCode
import Derived.Test.YtfedlgcpgfofjaaDoorPAllx2
import Derived.Test.YtfedlgcpgfofjaaDoorDBase3
import Derived.Deep.DeepCutAuto
namespace Go.Proofs.YtfedlgcpgfofjaaDoor.Sha
open Go.RowKit Go.Proofs.YtfedlgcpgfofjaaDoorW.PrintWords Go.Proofs.YtfedlgcpgfofjaaDoor.PAll Go.Proofs.YtfedlgcpgfofjaaDoor.Plain
set_option linter.unusedVariables false
/-- Bytes as a text. -/
def txt (p : List Nat) : ByteArray := strOfNums (toI p)
theorem tob64_any (p : List Nat) (A : Option Addr) (n c : Nat) (w : World) (hn : n = p.length) (hl : n ≤ 1000000000000) (hc : n ≤ c) (hp : Lt 256 p) (hC : C8 w A p.length p) :
    Calls Tryd.prog 33 #[.slice A n c] w fun e w' => e = .returned (.string (txt (spell al64 (six p)))) ∧ Below w.heap.size w w' := by
  subst hn
  obtain ⟨k, hk⟩ := Ev.rounds (tob64_ev p hp hl)
  have h := digest_Base64.calls k A c (toI p) _ w (by rw [toI_len]; exact hC) (by rw [toI_len]; exact hc) hk
  rw [toI_len] at h
  exact h
theorem tohex_any (p : List Nat) (A : Option Addr) (n c : Nat) (w : World) (hn : n = p.length) (hl : n ≤ 1000000000000) (hc : n ≤ c) (hp : Lt 256 p) (hC : C8 w A p.length p) :
    Calls Tryd.prog 34 #[.slice A n c] w fun e w' => e = .returned (.string (txt (spell al16 (four p)))) ∧ Below w.heap.size w w' := by
  subst hn
  obtain ⟨k, hk⟩ := Ev.rounds (tohex_ev p hp hl)
  have h := digest_Hex.calls k A c (toI p) _ w (by rw [toI_len]; exact hC) (by rw [toI_len]; exact hc) hk
  rw [toI_len] at h
  exact h
theorem from64_any (s : ByteArray) (w : World) :
    Calls Tryd.prog 28 #[.string s] w fun e w' => ∃ v, e = .returned (.tuple #[v, .int .i64 ((from64 (sN s)).2.1 : Int), .int .i64 ((from64 (sN s)).2.2 : Int)]) ∧ Own w' w.heap.size v (from64 (sN s)).1 ∧ Below w.heap.size w w' := by
  obtain ⟨k, hk⟩ := Ev.rounds (from64_ev s)
  exact (digest_FromBase64.calls k s _ _ _ w hk).mono fun e w' ⟨v, he, hR, hb⟩ => ⟨v, he, Own.of_R hR, hb⟩
theorem from16_any (s : ByteArray) (w : World) :
    Calls Tryd.prog 29 #[.string s] w fun e w' => ∃ v, e = .returned (.tuple #[v, .int .i64 ((from16 (sN s)).2.1 : Int), .int .i64 ((from16 (sN s)).2.2 : Int)]) ∧ Own w' w.heap.size v (from16 (sN s)).1 ∧ Below w.heap.size w w' := by
  obtain ⟨k, hk⟩ := Ev.rounds (from16_ev s)
  exact (digest_FromHex.calls k s _ _ _ w hk).mono fun e w' ⟨v, he, hR, hb⟩ => ⟨v, he, Own.of_R hR, hb⟩
theorem num_any (e : Int) (w : World) : Calls Tryd.prog 31 #[.int .i64 e] w fun x w' => x = .returned (.int .i64 e) ∧ Below w.heap.size w w' :=
  (wicketlaw02_num.calls e e w rfl).mono fun x w' ⟨h, hd⟩ => ⟨h, hd.below⟩
theorem same_any (p q : List Nat) (A B : Option Addr) (n m c d : Nat) (w : World) (hn : n = p.length) (hm : m = q.length) (hc : n ≤ c) (hd : m ≤ d) (hp : C8 w A p.length p) (hq : C8 w B q.length q) :
    Calls Tryd.prog 32 #[.slice A n c, .slice B m d] w fun e w' => e = .returned (.bool ((txt p).toList == (txt q).toList)) ∧ Below w.heap.size w w' := by
  subst hn hm
  have h := wicketlaw02_same.calls A c (toI p) B d (toI q) _ w (by rw [toI_len]; exact hp) (by rw [toI_len]; exact hc) (by rw [toI_len]; exact hq) (by rw [toI_len]; exact hd) rfl
  rw [toI_len, toI_len] at h
  exact h.mono fun x w' ⟨h, hd⟩ => ⟨h, hd.below⟩
theorem sN_txt (p : List Nat) (hp : Lt 256 p) : sN (txt p) = p := by
  unfold sN txt strOfNums toI
  simp only [List.map_map]
  conv => rhs; rw [← List.map_id p]
  refine List.map_congr_left fun x hx => ?_
  have := hp x hx
  simp
  omega
theorem txt_sN (s : ByteArray) : txt (sN s) = s := by
  obtain ⟨⟨l⟩⟩ := s
  unfold sN txt strOfNums toI
  simp only [List.map_map]
  congr 2
  conv => rhs; rw [← List.map_id l]
  refine List.map_congr_left fun x hx => ?_
  simp
theorem txt_size (p : List Nat) : (txt p).size = p.length := by
  unfold txt strOfNums toI
  show List.length _ = _
  simp
theorem spell_len (al v : List Nat) : (spell al v).length = v.length := List.length_map _
theorem spell64_lt (v : List Nat) : Lt 256 (spell al64 v) := fun x hx => by
  obtain ⟨n, hn, rfl⟩ := List.mem_map.1 hx
  rw [List.getD_eq_getElem?_getD]
  rcases Nat.lt_or_ge n al64.length with h | h
  · rw [List.getElem?_eq_getElem h]
    exact (show ∀ x ∈ al64, x < 256 by decide) _ (List.getElem_mem h)
  · rw [List.getElem?_eq_none h]
    decide
theorem spell16_lt (v : List Nat) : Lt 256 (spell al16 v) := fun x hx => by
  obtain ⟨n, hn, rfl⟩ := List.mem_map.1 hx
  rw [List.getD_eq_getElem?_getD]
  rcases Nat.lt_or_ge n al16.length with h | h
  · rw [List.getElem?_eq_getElem h]
    exact (show ∀ x ∈ al16, x < 256 by decide) _ (List.getElem_mem h)
  · rw [List.getElem?_eq_none h]
    decide
theorem same_self (p : List Nat) (A B : Option Addr) (n m c d : Nat) (w : World) (hn : n = p.length) (hm : m = p.length) (hc : n ≤ c) (hd : m ≤ d) (hp : C8 w A p.length p) (hq : C8 w B p.length p) :
    Calls Tryd.prog 32 #[.slice A n c, .slice B m d] w fun e w' => e = .returned (.bool true) ∧ Below w.heap.size w w' := by
  have h := same_any p p A B n m c d w hn hm hc hd hp hq
  rwa [show ((txt p).toList == (txt p).toList) = true by simp] at h
end Go.Proofs.YtfedlgcpgfofjaaDoor.Sha
